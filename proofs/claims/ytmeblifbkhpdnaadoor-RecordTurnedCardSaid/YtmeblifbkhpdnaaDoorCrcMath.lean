namespace CrcMath

def poly : BitVec 32 := 0xEDB88320#32
/-- One bit of the CRC's register. -/
def st1 (n : BitVec 32) : BitVec 32 := (n >>> 1) ^^^ (if n.getLsbD 0 then poly else 0#32)
def stN : Nat → BitVec 32 → BitVec 32
  | 0, n => n
  | k + 1, n => stN k (st1 n)

theorem poly_top : poly.getLsbD 31 = true := by decide

theorem st1_xor (a b : BitVec 32) : st1 (a ^^^ b) = st1 a ^^^ st1 b := by
  unfold st1
  rw [BitVec.ushiftRight_xor_distrib, BitVec.getLsbD_xor]
  generalize a >>> 1 = x
  generalize b >>> 1 = y
  cases a.getLsbD 0 <;> cases b.getLsbD 0 <;> simp only [Bool.xor_false, Bool.xor_true, Bool.not_true, Bool.not_false, if_true, if_false, BitVec.xor_zero, Bool.false_eq_true]
  · ac_rfl
  · ac_rfl
  · have : x ^^^ poly ^^^ (y ^^^ poly) = x ^^^ y ^^^ (poly ^^^ poly) := by ac_rfl
    rw [this, BitVec.xor_self, BitVec.xor_zero]

theorem st1_zero : st1 0#32 = 0#32 := by decide

theorem st1_top (a : BitVec 32) : (st1 a).getLsbD 31 = a.getLsbD 0 := by
  unfold st1
  rw [BitVec.getLsbD_xor, BitVec.getLsbD_ushiftRight]
  have h : a.getLsbD (1 + 31) = false := BitVec.getLsbD_of_ge _ _ (by omega)
  rw [h]
  cases a.getLsbD 0
  · simp
  · simp [poly_top]

theorem st1_eq_zero {a : BitVec 32} (h : st1 a = 0#32) : a = 0#32 := by
  have h0 : a.getLsbD 0 = false := by
    rw [← st1_top, h]; simp
  unfold st1 at h
  rw [h0] at h
  simp at h
  apply BitVec.eq_of_getLsbD_eq
  intro i hi
  rw [BitVec.getLsbD_zero]
  cases i with
  | zero => exact h0
  | succ i =>
    have := congrArg (fun x => BitVec.getLsbD x i) h
    simpa [BitVec.getLsbD_ushiftRight, Nat.add_comm] using this

theorem xor_eq_zero {a b : BitVec 32} (h : a ^^^ b = 0#32) : a = b := by
  have : a ^^^ b ^^^ b = 0#32 ^^^ b := by rw [h]
  rw [BitVec.xor_assoc, BitVec.xor_self, BitVec.xor_zero, BitVec.zero_xor] at this
  exact this

theorem st1_inj {a b : BitVec 32} (h : st1 a = st1 b) : a = b := by
  apply xor_eq_zero
  apply st1_eq_zero
  rw [st1_xor, h, BitVec.xor_self]

theorem stN_xor (k : Nat) : ∀ a b, stN k (a ^^^ b) = stN k a ^^^ stN k b := by
  induction k with
  | zero => intro a b; rfl
  | succ k ih => intro a b; simp only [stN]; rw [st1_xor, ih]

theorem stN_zero (k : Nat) : stN k 0#32 = 0#32 := by
  induction k with
  | zero => rfl
  | succ k ih => simp only [stN]; rw [st1_zero, ih]

theorem stN_inj (k : Nat) : ∀ {a b}, stN k a = stN k b → a = b := by
  induction k with
  | zero => intro a b h; exact h
  | succ k ih => intro a b h; exact st1_inj (ih h)

theorem stN_add (i j : Nat) : ∀ n, stN (i + j) n = stN j (stN i n) := by
  induction i with
  | zero => intro n; rw [Nat.zero_add]; rfl
  | succ i ih => intro n; rw [Nat.succ_add]; simp only [stN]; rw [ih]

theorem stN_succ' (k : Nat) (n : BitVec 32) : stN (k + 1) n = st1 (stN k n) := by
  rw [stN_add k 1]; rfl

/-- A register whose top bit is clear is one step behind its double. -/
theorem st1_shl (m : BitVec 32) (h : m.getLsbD 31 = false) : st1 (m <<< 1) = m := by
  unfold st1
  have h0 : (m <<< 1).getLsbD 0 = false := by simp
  rw [h0]
  simp
  apply BitVec.eq_of_getLsbD_eq
  intro i hi
  rw [BitVec.getLsbD_ushiftRight, BitVec.getLsbD_shiftLeft]
  by_cases hi' : i = 31
  · subst hi'; rw [h]; simp
  · have : 1 + i < 32 := by omega
    simp [this]

theorem stN_shl (j : Nat) : ∀ (m : BitVec 32), (∀ i, 32 - j ≤ i → m.getLsbD i = false) → stN j (m <<< j) = m := by
  induction j with
  | zero => intro m _; simp [stN]
  | succ j ih =>
    intro m h
    have e : m <<< (j + 1) = (m <<< j) <<< 1 := by rw [BitVec.shiftLeft_add]
    rw [e]
    simp only [stN]
    rw [st1_shl, ih m (fun i hi => h i (by omega))]
    rw [BitVec.getLsbD_shiftLeft]
    by_cases hj : 31 < j
    · simp [hj]
    · have := h (31 - j) (by omega)
      simp [this]

/-! ### bits, one behind the other -/
def b1 (b : Bool) : BitVec 32 := if b then 1#32 else 0#32
/-- The register behind the first n bits of d, of a start s. -/
def bitS (d : Nat → Bool) (s : BitVec 32) : Nat → BitVec 32
  | 0 => s
  | n + 1 => st1 (bitS d s n ^^^ b1 (d n))

theorem b1_xor (a b : Bool) : b1 (a ^^ b) = b1 a ^^^ b1 b := by cases a <;> cases b <;> decide

theorem bitS_xor (d e : Nat → Bool) (s t : BitVec 32) (n : Nat) : bitS (fun i => d i ^^ e i) (s ^^^ t) n = bitS d s n ^^^ bitS e t n := by
  induction n with
  | zero => rfl
  | succ n ih =>
    simp only [bitS]
    rw [ih, b1_xor, ← st1_xor]
    congr 1
    ac_rfl

/-- d's bits from p on, j of them, as a register. -/
def win (d : Nat → Bool) (p : Nat) : Nat → BitVec 32
  | 0 => 0#32
  | j + 1 => win d p j ^^^ (b1 (d (p + j)) <<< j)

theorem b1_shl_bit (b : Bool) (j i : Nat) (hi : i < 32) : (b1 b <<< j).getLsbD i = (b && decide (i = j)) := by
  rw [BitVec.getLsbD_shiftLeft]
  cases b
  · simp [b1]
  · by_cases h : i < j
    · have : i ≠ j := by omega
      simp [h, hi, this]
    · by_cases h2 : i = j
      · subst h2; simp [b1, hi]
      · have h3 : i - j ≠ 0 := by omega
        have h4 : ¬ (i - j = 0) := h3
        simp [b1, hi, h, h2]
        omega

theorem win_bit (d : Nat → Bool) (p j i : Nat) (hi : i < 32) : (win d p j).getLsbD i = (decide (i < j) && d (p + i)) := by
  induction j with
  | zero => simp [win]
  | succ j ih =>
    simp only [win]
    rw [BitVec.getLsbD_xor, ih, b1_shl_bit _ _ _ hi]
    by_cases h : i = j
    · subst h; simp
    · by_cases h2 : i < j
      · have : i < j + 1 := by omega
        simp [h, h2, this]
      · have : ¬ i < j + 1 := by omega
        simp [h, h2, this]

theorem b1_high (b : Bool) (i : Nat) (h : 1 ≤ i) : (b1 b).getLsbD i = false := by
  cases b
  · simp [b1]
  · simp [b1]; omega

theorem bitS_zero_before (d : Nat → Bool) (p : Nat) (h : ∀ i, i < p → d i = false) : ∀ n, n ≤ p → bitS d 0#32 n = 0#32
  | 0, _ => rfl
  | n + 1, hn => by
    simp only [bitS]
    rw [bitS_zero_before d p h n (by omega), h n (by omega)]
    decide

theorem bitS_win (d : Nat → Bool) (p : Nat) (h : ∀ i, i < p → d i = false) : ∀ j, j ≤ 32 → bitS d 0#32 (p + j) = stN j (win d p j)
  | 0, _ => by rw [Nat.add_zero, bitS_zero_before d p h p (Nat.le_refl _)]; rfl
  | j + 1, hj => by
    have ih := bitS_win d p h j (by omega)
    rw [← Nat.add_assoc]
    simp only [bitS, win]
    rw [ih, stN_succ', stN_xor]
    congr 2
    exact (stN_shl j _ (fun i hi => b1_high _ i (by omega))).symm

theorem bitS_after (d : Nat → Bool) (p : Nat) (h : ∀ i, p ≤ i → d i = false) (s : BitVec 32) : ∀ n, bitS d s (p + n) = stN n (bitS d s p)
  | 0 => rfl
  | n + 1 => by
    rw [← Nat.add_assoc]
    simp only [bitS]
    rw [bitS_after d p h s n, h (p + n) (by omega), stN_succ']
    congr 1
    simp [b1]

/-- A burst within 32 bits in a row is told: the register isn't nought behind it. -/
theorem burst (d : Nat → Bool) (p N : Nat) (hlo : ∀ i, i < p → d i = false) (hhi : ∀ i, p + 32 ≤ i → d i = false)
    (hsome : ∃ i, i < N ∧ d i = true) : bitS d 0#32 N ≠ 0#32 := by
  obtain ⟨i, hiN, hi⟩ := hsome
  have hp : p ≤ i := by
    rcases Nat.lt_or_ge i p with h | h
    · rw [hlo i h] at hi; cases hi
    · exact h
  have hp2 : i < p + 32 := by
    rcases Nat.lt_or_ge i (p + 32) with h | h
    · exact h
    · rw [hhi i h] at hi; cases hi
  have hne : ∀ j, i < p + j → j ≤ 32 → win d p j ≠ 0#32 := by
    intro j hj _ h0
    have := win_bit d p j (i - p) (by omega)
    rw [h0, show p + (i - p) = i by omega, hi] at this
    have h1 : i - p < j := by omega
    simp [h1] at this
  intro h0
  rcases Nat.lt_or_ge N (p + 32) with h | h
  · obtain ⟨j, rfl⟩ : ∃ j, N = p + j := ⟨N - p, by omega⟩
    rw [bitS_win d p hlo j (by omega)] at h0
    exact hne j hiN (by omega) (stN_inj j (h0.trans (stN_zero j).symm))
  · obtain ⟨m, rfl⟩ : ∃ m, N = (p + 32) + m := ⟨N - (p + 32), by omega⟩
    rw [bitS_after d (p + 32) hhi, bitS_win d p hlo 32 (by omega)] at h0
    have h1 := stN_inj m (h0.trans (stN_zero m).symm)
    exact hne 32 hp2 (by omega) (stN_inj 32 (h1.trans (stN_zero 32).symm))

/-! ### bytes -/
def byteS (n : BitVec 32) (c : Int) : BitVec 32 := stN 8 (n ^^^ BitVec.ofInt 32 c)
def crcS (n : BitVec 32) (l : List Int) : BitVec 32 := l.foldl byteS n
def ones : BitVec 32 := 0xFFFFFFFF#32
/-- The CRC of bytes. -/
def crc (l : List Int) : BitVec 32 := crcS ones l ^^^ ones
def bitAt (l : List Int) (i : Nat) : Bool := (l.getD (i / 8) 0).toNat.testBit (i % 8)
/-- Each of a list's numbers is a byte. -/
def Bytes (l : List Int) : Prop := ∀ c ∈ l, 0 ≤ c ∧ c < 256

theorem bitS_win' (d : Nat → Bool) (s : BitVec 32) (p : Nat) : ∀ j, j ≤ 32 → bitS d s (p + j) = stN j (bitS d s p ^^^ win d p j)
  | 0, _ => by simp [win, stN]
  | j + 1, hj => by
    have ih := bitS_win' d s p j (by omega)
    rw [← Nat.add_assoc]
    simp only [bitS, win]
    rw [ih, stN_succ', ← BitVec.xor_assoc, stN_xor j _ (b1 (d (p + j)) <<< j)]
    congr 2
    exact (stN_shl j _ (fun i hi => b1_high _ i (by omega))).symm

theorem ofInt_bit (c : Int) (h0 : 0 ≤ c) (i : Nat) (hi : i < 32) : (BitVec.ofInt 32 c).getLsbD i = c.toNat.testBit i := by
  obtain ⟨n, rfl⟩ := Int.eq_ofNat_of_zero_le h0
  rw [BitVec.ofInt_natCast, BitVec.getLsbD_ofNat, Int.toNat_natCast]
  simp [hi]

theorem win_byte (d : Nat → Bool) (p : Nat) (c : Int) (h0 : 0 ≤ c) (h1 : c < 256) (h : ∀ i, i < 8 → d (p + i) = c.toNat.testBit i) : win d p 8 = BitVec.ofInt 32 c := by
  apply BitVec.eq_of_getLsbD_eq
  intro i hi
  rw [win_bit _ _ _ _ hi, ofInt_bit c h0 i hi]
  by_cases h8 : i < 8
  · rw [h i h8]; simp [h8]
  · have : c.toNat.testBit i = false := Nat.testBit_lt_two_pow (Nat.lt_of_lt_of_le (show c.toNat < 2 ^ 8 by omega) (Nat.pow_le_pow_right (by omega) (by omega)))
    simp [h8, this]

theorem crcS_take (s : BitVec 32) (l : List Int) (hb : Bytes l) : ∀ k, k ≤ l.length → crcS s (l.take k) = bitS (bitAt l) s (8 * k)
  | 0, _ => by simp [crcS, bitS]
  | k + 1, hk => by
    have hlt : k < l.length := by omega
    have ih := crcS_take s l hb k (by omega)
    rw [List.take_succ_eq_append_getElem hlt]
    unfold crcS at ih ⊢
    rw [List.foldl_append, ih, show 8 * (k + 1) = 8 * k + 8 by omega, bitS_win' _ _ _ 8 (by omega)]
    have hc := hb l[k] (List.getElem_mem hlt)
    rw [win_byte (bitAt l) (8 * k) l[k] hc.1 hc.2]
    · rfl
    · intro i hi
      unfold bitAt
      rw [show (8 * k + i) / 8 = k by omega, show (8 * k + i) % 8 = i by omega, List.getD_eq_getElem?_getD, List.getElem?_eq_getElem hlt]
      rfl

theorem crcS_bits (s : BitVec 32) (l : List Int) (hb : Bytes l) : crcS s l = bitS (bitAt l) s (8 * l.length) := by
  have := crcS_take s l hb l.length (Nat.le_refl _)
  rwa [List.take_length] at this

theorem crcS_append (s : BitVec 32) (l m : List Int) : crcS s (l ++ m) = crcS (crcS s l) m := List.foldl_append ..

/-- Two texts as long as each other that are unlike in some bits, all within 32 in a row: their registers are unlike. -/
theorem crcS_burst (s : BitVec 32) (l m : List Int) (hl : Bytes l) (hm : Bytes m) (hlen : l.length = m.length) (p : Nat)
    (hlo : ∀ i, i < p → bitAt l i = bitAt m i) (hhi : ∀ i, p + 32 ≤ i → bitAt l i = bitAt m i) (hsome : ∃ i, i < 8 * l.length ∧ bitAt l i ≠ bitAt m i) : crcS s l ≠ crcS s m := by
  intro h
  rw [crcS_bits s l hl, crcS_bits s m hm, ← hlen] at h
  have h2 := bitS_xor (bitAt l) (bitAt m) s s (8 * l.length)
  rw [h, BitVec.xor_self, BitVec.xor_self] at h2
  refine burst (fun i => bitAt l i ^^ bitAt m i) p (8 * l.length) (fun i hi => ?_) (fun i hi => ?_) ?_ h2
  · show (bitAt l i ^^ bitAt m i) = false
    rw [hlo i hi]; simp
  · show (bitAt l i ^^ bitAt m i) = false
    rw [hhi i hi]; simp
  · obtain ⟨i, h1, h3⟩ := hsome
    refine ⟨i, h1, ?_⟩
    show (bitAt l i ^^ bitAt m i) = true
    revert h3
    cases bitAt l i <;> cases bitAt m i <;> simp

theorem byteS_inj_left {n m : BitVec 32} {c : Int} (h : byteS n c = byteS m c) : n = m := by
  have := stN_inj 8 h
  apply xor_eq_zero
  have h2 : n ^^^ BitVec.ofInt 32 c ^^^ (m ^^^ BitVec.ofInt 32 c) = n ^^^ m := by
    have : n ^^^ BitVec.ofInt 32 c ^^^ (m ^^^ BitVec.ofInt 32 c) = n ^^^ m ^^^ (BitVec.ofInt 32 c ^^^ BitVec.ofInt 32 c) := by ac_rfl
    rw [this, BitVec.xor_self, BitVec.xor_zero]
  rw [← h2, this, BitVec.xor_self]

theorem crcS_inj (l : List Int) : ∀ {n m}, crcS n l = crcS m l → n = m := by
  induction l with
  | nil => intro n m h; exact h
  | cons c l ih => intro n m h; exact byteS_inj_left (ih h)

theorem crc_inj_iff (l m : List Int) : crc l = crc m ↔ crcS ones l = crcS ones m := by
  unfold crc
  constructor
  · intro h
    have : crcS ones l ^^^ ones ^^^ ones = crcS ones m ^^^ ones ^^^ ones := by rw [h]
    rwa [BitVec.xor_assoc, BitVec.xor_assoc, BitVec.xor_self, BitVec.xor_zero, BitVec.xor_zero] at this
  · intro h; rw [h]

/-! ### sealed -/
/-- The register's four bytes, lowest first. -/
def le4 (v : BitVec 32) : List Int := [(v.toNat % 256 : Nat), (v.toNat / 256 % 256 : Nat), (v.toNat / 65536 % 256 : Nat), (v.toNat / 16777216 : Nat)]

theorem bytes_le4 (v : BitVec 32) : Bytes (le4 v) := by
  intro c hc
  have := v.isLt
  simp only [le4, List.mem_cons, List.not_mem_nil, or_false] at hc
  rcases hc with rfl | rfl | rfl | rfl <;> constructor <;> omega

theorem bitAt_le4 (v : BitVec 32) (i : Nat) (hi : i < 32) : bitAt (le4 v) i = v.getLsbD i := by
  rw [BitVec.getLsbD]
  unfold bitAt le4
  have h4 : i / 8 = 0 ∨ i / 8 = 1 ∨ i / 8 = 2 ∨ i / 8 = 3 := by omega
  have key : ∀ (x j : Nat), x.testBit j = decide (x / 2 ^ j % 2 = 1) := fun x j => Nat.testBit_eq_decide_div_mod_eq
  have e8 : (256 : Nat) = 2 ^ 8 := rfl
  have e16 : (65536 : Nat) = 2 ^ 16 := rfl
  have e24 : (16777216 : Nat) = 2 ^ 24 := rfl
  rcases h4 with h | h | h | h <;> rw [h] <;> simp only [List.getD_cons_zero, List.getD_cons_succ, Int.toNat_natCast]
  · rw [e8, Nat.testBit_mod_two_pow]
    have : i % 8 = i := by omega
    rw [this]
    have h8 : i < 8 := by omega
    simp [h8]
  · rw [show (256 : Nat) = 2 ^ 8 from rfl, Nat.testBit_mod_two_pow, Nat.testBit_div_two_pow]
    have h8 : i % 8 < 8 := by omega
    rw [show i % 8 + 8 = i by omega]
    simp [h8]
  · rw [e8, e16, Nat.testBit_mod_two_pow, Nat.testBit_div_two_pow]
    have h8 : i % 8 < 8 := by omega
    rw [show i % 8 + 16 = i by omega]
    simp [h8]
  · rw [e24, Nat.testBit_div_two_pow, show i % 8 + 24 = i by omega]

theorem crcS_four (s : BitVec 32) (l : List Int) (hb : Bytes l) (h4 : l.length = 4) (v : BitVec 32) (hv : ∀ i, i < 32 → bitAt l i = v.getLsbD i) : crcS s l = stN 32 (s ^^^ v) := by
  rw [crcS_bits s l hb, h4]
  have := bitS_win' (bitAt l) s 0 32 (by omega)
  rw [Nat.zero_add] at this
  rw [show 8 * 4 = 32 from rfl, this]
  simp only [bitS]
  congr 2
  apply BitVec.eq_of_getLsbD_eq
  intro i hi
  rw [win_bit _ _ _ _ hi, Nat.zero_add, hv i hi]
  simp [hi]

theorem crcS_le4 (s v : BitVec 32) : crcS s (le4 v) = stN 32 (s ^^^ v) := crcS_four s (le4 v) (bytes_le4 v) rfl v (bitAt_le4 v)

/-- What is read of four bytes. -/
def ofLe4 (l : List Int) : BitVec 32 := BitVec.ofInt 32 (l.getD 0 0 + 256 * l.getD 1 0 + 65536 * l.getD 2 0 + 16777216 * l.getD 3 0)

theorem le4_ofLe4 {l : List Int} (hb : Bytes l) (h4 : l.length = 4) : le4 (ofLe4 l) = l := by
  obtain ⟨a, b, c, d, rfl⟩ : ∃ a b c d, l = [a, b, c, d] := by
    match l, h4 with
    | [a, b, c, d], _ => exact ⟨a, b, c, d, rfl⟩
  have ha := hb a (by simp)
  have hb' := hb b (by simp)
  have hc := hb c (by simp)
  have hd := hb d (by simp)
  obtain ⟨a, rfl⟩ := Int.eq_ofNat_of_zero_le ha.1
  obtain ⟨b, rfl⟩ := Int.eq_ofNat_of_zero_le hb'.1
  obtain ⟨c, rfl⟩ := Int.eq_ofNat_of_zero_le hc.1
  obtain ⟨d, rfl⟩ := Int.eq_ofNat_of_zero_le hd.1
  have e : ((a : Int) + 256 * (b : Int) + 65536 * (c : Int) + 16777216 * (d : Int)) = ((a + 256 * b + 65536 * c + 16777216 * d : Nat) : Int) := by simp
  unfold le4 ofLe4
  simp only [List.getD_cons_zero, List.getD_cons_succ]
  rw [e, BitVec.ofInt_natCast, BitVec.toNat_ofNat]
  have hlt : a + 256 * b + 65536 * c + 16777216 * d < 2 ^ 32 := by omega
  rw [Nat.mod_eq_of_lt hlt]
  congr 1
  · omega
  congr 1
  · omega
  congr 1
  · omega
  congr 1
  omega

theorem ofLe4_le4 (v : BitVec 32) : ofLe4 (le4 v) = v := by
  unfold ofLe4 le4
  simp only [List.getD_cons_zero, List.getD_cons_succ]
  have := v.isLt
  have e : (((v.toNat % 256 : Nat) : Int) + 256 * ((v.toNat / 256 % 256 : Nat) : Int) + 65536 * ((v.toNat / 65536 % 256 : Nat) : Int) + 16777216 * ((v.toNat / 16777216 : Nat) : Int)) = (v.toNat : Int) := by omega
  rw [e, BitVec.ofInt_natCast, BitVec.ofNat_toNat]
  simp

theorem crcS_right (s : BitVec 32) (l : List Int) (hb : Bytes l) (h4 : l.length = 4) : crcS s l = stN 32 (s ^^^ ofLe4 l) := by
  rw [← le4_ofLe4 hb h4, crcS_le4, ofLe4_le4]

/-- What a sealed text's register comes to, and no other's. -/
theorem sealed_iff (b t : List Int) (ht : Bytes t) (h4 : t.length = 4) : ofLe4 t = crc b ↔ crcS ones (b ++ t) = stN 32 ones := by
  rw [crcS_append, crcS_right _ t ht h4]
  unfold crc
  constructor
  · intro h
    rw [h, ← BitVec.xor_assoc, BitVec.xor_self, BitVec.zero_xor]
  · intro h
    have h := stN_inj 32 h
    have : crcS ones b ^^^ (crcS ones b ^^^ ofLe4 t) = crcS ones b ^^^ ones := by rw [h]
    rwa [← BitVec.xor_assoc, BitVec.xor_self, BitVec.zero_xor] at this

/-- THE LAW OF THE SEAL: of a sealed text with bits turned, all within 32 in a row, the sum is not right. -/
theorem turned_told (b t b' t' : List Int) (hb : Bytes (b ++ t)) (hb' : Bytes (b' ++ t')) (h4 : t.length = 4) (h4' : t'.length = 4) (hlen : b.length = b'.length) (hs : ofLe4 t = crc b) (p : Nat)
    (hlo : ∀ i, i < p → bitAt (b ++ t) i = bitAt (b' ++ t') i) (hhi : ∀ i, p + 32 ≤ i → bitAt (b ++ t) i = bitAt (b' ++ t') i) (hsome : ∃ i, i < 8 * (b ++ t).length ∧ bitAt (b ++ t) i ≠ bitAt (b' ++ t') i) :
    ofLe4 t' ≠ crc b' := by
  intro hs'
  have e1 := (sealed_iff b t (fun c hc => hb c (by simp [hc])) h4).1 hs
  have e2 := (sealed_iff b' t' (fun c hc => hb' c (by simp [hc])) h4').1 hs'
  exact crcS_burst ones (b ++ t) (b' ++ t') hb hb' (by simp [hlen, h4, h4']) p hlo hhi hsome (e1.trans e2.symm)

/-- One byte that is another one: another sum. -/
theorem crc_set (l : List Int) (hl : Bytes l) (k : Nat) (hk : k < l.length) (c : Int) (hc : 0 ≤ c ∧ c < 256) (hne : l[k] ≠ c) : crc l ≠ crc (l.set k c) := by
  intro h
  rw [crc_inj_iff] at h
  have e1 : l = l.take k ++ l[k] :: l.drop (k + 1) := by rw [List.getElem_cons_drop, List.take_append_drop]
  have e2 : l.set k c = l.take k ++ c :: l.drop (k + 1) := List.set_eq_take_append_cons_drop.trans (by rw [if_pos hk])
  rw [e2] at h
  conv at h => lhs; rw [e1]
  rw [crcS_append, crcS_append] at h
  have h2 : byteS (crcS ones (l.take k)) l[k] = byteS (crcS ones (l.take k)) c := crcS_inj (l.drop (k + 1)) h
  have h3 := stN_inj 8 h2
  have h4 : BitVec.ofInt 32 l[k] = BitVec.ofInt 32 c := by
    have : crcS ones (l.take k) ^^^ (crcS ones (l.take k) ^^^ BitVec.ofInt 32 l[k]) = crcS ones (l.take k) ^^^ (crcS ones (l.take k) ^^^ BitVec.ofInt 32 c) := by rw [h3]
    rwa [← BitVec.xor_assoc, ← BitVec.xor_assoc, BitVec.xor_self, BitVec.zero_xor, BitVec.zero_xor] at this
  have h5 := congrArg BitVec.toNat h4
  have hk2 := hl l[k] (List.getElem_mem hk)
  rw [BitVec.toNat_ofInt, BitVec.toNat_ofInt] at h5
  apply hne
  omega

/-- The sum of a mix of three. -/
theorem crcS_mix (a b c : List Int) : ∀ (m : List Int) (x y z : BitVec 32), a.length = m.length → b.length = m.length → c.length = m.length →
    (∀ i, i < m.length → BitVec.ofInt 32 (m.getD i 0) = BitVec.ofInt 32 (a.getD i 0) ^^^ BitVec.ofInt 32 (b.getD i 0) ^^^ BitVec.ofInt 32 (c.getD i 0)) →
    crcS (x ^^^ y ^^^ z) m = crcS x a ^^^ crcS y b ^^^ crcS z c := by
  induction a generalizing b c with
  | nil =>
    intro m x y z h1 h2 h3 _
    obtain rfl : m = [] := List.eq_nil_of_length_eq_zero h1.symm
    obtain rfl : b = [] := List.eq_nil_of_length_eq_zero h2
    obtain rfl : c = [] := List.eq_nil_of_length_eq_zero h3
    rfl
  | cons a0 a ih =>
    intro m x y z h1 h2 h3 h
    match m, h1 with
    | m0 :: m, h1 =>
    match b, h2 with
    | b0 :: b, h2 =>
    match c, h3 with
    | c0 :: c, h3 =>
    have h0 := h 0 (by simp)
    simp only [List.getD_cons_zero] at h0
    show crcS (byteS (x ^^^ y ^^^ z) m0) m = crcS (byteS x a0) a ^^^ crcS (byteS y b0) b ^^^ crcS (byteS z c0) c
    have e : byteS (x ^^^ y ^^^ z) m0 = byteS x a0 ^^^ byteS y b0 ^^^ byteS z c0 := by
      unfold byteS
      rw [← stN_xor, ← stN_xor, h0]
      congr 1
      ac_rfl
    rw [e]
    refine ih b c m _ _ _ (by simpa using h1) (by simpa using h2) (by simpa using h3) (fun i hi => ?_)
    have := h (i + 1) (by simp; omega)
    simpa using this

theorem crc_mix (a b c m : List Int) (h1 : a.length = m.length) (h2 : b.length = m.length) (h3 : c.length = m.length)
    (h : ∀ i, i < m.length → BitVec.ofInt 32 (m.getD i 0) = BitVec.ofInt 32 (a.getD i 0) ^^^ BitVec.ofInt 32 (b.getD i 0) ^^^ BitVec.ofInt 32 (c.getD i 0)) :
    crc m = crc a ^^^ crc b ^^^ crc c := by
  have := crcS_mix a b c m ones ones ones h1 h2 h3 h
  rw [BitVec.xor_self, BitVec.zero_xor] at this
  unfold crc
  rw [this]
  have e : crcS ones a ^^^ ones ^^^ (crcS ones b ^^^ ones) ^^^ (crcS ones c ^^^ ones) = crcS ones a ^^^ crcS ones b ^^^ crcS ones c ^^^ ones ^^^ (ones ^^^ ones) := by ac_rfl
  rw [e, BitVec.xor_self, BitVec.xor_zero]

/-! ### noughts -/
def nou : Nat → BitVec 32 → BitVec 32
  | 0, n => n
  | k + 1, n => nou k (stN 8 n)

theorem crcS_noughts (k : Nat) : ∀ s, crcS s (List.replicate k 0) = nou k s := by
  induction k with
  | zero => intro s; rfl
  | succ k ih =>
    intro s
    show crcS (byteS s 0) (List.replicate k 0) = nou k (stN 8 s)
    rw [ih, show byteS s 0 = stN 8 s by unfold byteS; rw [show BitVec.ofInt 32 0 = 0#32 from rfl, BitVec.xor_zero]]

theorem nou_inj (k : Nat) : ∀ {a b}, nou k a = nou k b → a = b := by
  induction k with
  | zero => intro a b h; exact h
  | succ k ih => intro a b h; exact stN_inj 8 (ih h)

theorem nou_add (i j : Nat) : ∀ n, nou (i + j) n = nou j (nou i n) := by
  induction i with
  | zero => intro n; rw [Nat.zero_add]; rfl
  | succ i ih => intro n; rw [Nat.succ_add]; simp only [nou]; rw [ih]

/-- One step, as numbers. -/
def stp (n : Nat) : Nat := Nat.xor (n / 2) (3988292384 * (n % 2))
def stp8 (n : Nat) : Nat := stp (stp (stp (stp (stp (stp (stp (stp n)))))))
theorem ones_toNat : ones.toNat = 4294967295 := by decide
/-- k steps, none of which comes to the start. -/
def chk : Nat → Nat → Bool
  | 0, _ => true
  | k + 1, n => match stp8 n with
    | 0 => false
    | m + 1 => !(Nat.beq (m + 1) 4294967295) && chk k (m + 1)

theorem stp_st1 (n : BitVec 32) : (st1 n).toNat = stp n.toNat := by
  have h : n.getLsbD 0 = decide (n.toNat % 2 = 1) := by
    rw [BitVec.getLsbD, Nat.testBit_zero]
  unfold st1 stp
  rw [BitVec.toNat_xor, BitVec.toNat_ushiftRight, Nat.shiftRight_eq_div_pow, h]
  show _ = (n.toNat / 2) ^^^ _
  rcases Nat.mod_two_eq_zero_or_one n.toNat with h0 | h0 <;> rw [h0] <;> simp [poly]

theorem stp8_st8 (n : BitVec 32) : (stN 8 n).toNat = stp8 n.toNat := by
  simp only [stN, stp8, stp_st1]

theorem chk_spec (k : Nat) : ∀ (n : BitVec 32), chk k n.toNat = true → ∀ j, 1 ≤ j → j ≤ k → nou j n ≠ ones := by
  induction k with
  | zero => intro n _ j h1 h2; omega
  | succ k ih =>
    intro n h j h1 h2
    unfold chk at h
    rw [← stp8_st8] at h
    match hm : (stN 8 n).toNat, h with
    | 0, h => cases h
    | m + 1, h =>
      simp only [Bool.and_eq_true, Bool.not_eq_true'] at h
      obtain ⟨j, rfl⟩ : ∃ i, j = i + 1 := ⟨j - 1, by omega⟩
      simp only [nou]
      cases j with
      | zero =>
        intro h3
        simp only [nou] at h3
        have h4 := Nat.ne_of_beq_eq_false h.1
        rw [h3, ones_toNat] at hm
        exact h4 hm.symm
      | succ j =>
        refine ih (stN 8 n) ?_ (j + 1) (by omega) (by omega)
        rw [hm]
        exact h.2

theorem chk3000 : chk 3000 4294967295 = true := by decide +kernel

theorem nou_ne (a b : Nat) (hb : b ≤ 3000) (hab : a < b) : nou a ones ≠ nou b ones := by
  intro h
  obtain ⟨d, rfl⟩ : ∃ d, b = d + a := ⟨b - a, by omega⟩
  rw [nou_add] at h
  have h2 := nou_inj a h
  exact chk_spec 3000 ones chk3000 d (by omega) (by omega) h2.symm

theorem crc_noughts (a b : Nat) (ha : a ≤ 3000) (hb : b ≤ 3000) : crc (List.replicate a 0) = crc (List.replicate b 0) ↔ a = b := by
  constructor
  · intro h
    rw [crc_inj_iff, crcS_noughts, crcS_noughts] at h
    rcases Nat.lt_trichotomy a b with h1 | h1 | h1
    · exact absurd h (nou_ne a b hb h1)
    · exact h1
    · exact absurd h.symm (nou_ne b a ha h1)
  · intro h; rw [h]

/-! ### FNV -/
/-- Times the prime. -/
def mulP (n : BitVec 64) : BitVec 64 := n * 1099511628211#64
def fnvB (n : BitVec 64) (c : Int) : BitVec 64 := mulP (n ^^^ BitVec.ofInt 64 c)
def fnvS (n : BitVec 64) (l : List Int) : BitVec 64 := l.foldl fnvB n
def basis : BitVec 64 := 14695981039346656037#64
def fnv (l : List Int) : BitVec 64 := fnvS basis l

theorem prime_inv : (1099511628211#64 * 14886173955864302971#64) = 1#64 := by decide +kernel
theorem mul_prime_inj {a b : BitVec 64} (h : mulP a = mulP b) : a = b := by
  unfold mulP at h
  have h1 : a * 1099511628211#64 * 14886173955864302971#64 = b * 1099511628211#64 * 14886173955864302971#64 := by rw [h]
  rw [BitVec.mul_assoc, BitVec.mul_assoc, prime_inv, BitVec.mul_one, BitVec.mul_one] at h1
  exact h1

theorem xor_right_inj {a b c : BitVec 64} (h : a ^^^ c = b ^^^ c) : a = b := by
  have : a ^^^ c ^^^ c = b ^^^ c ^^^ c := by rw [h]
  rwa [BitVec.xor_assoc, BitVec.xor_assoc, BitVec.xor_self, BitVec.xor_zero, BitVec.xor_zero] at this

theorem fnvB_inj {n m : BitVec 64} {c : Int} (h : fnvB n c = fnvB m c) : n = m := xor_right_inj (mul_prime_inj h)
theorem fnvS_inj (l : List Int) : ∀ {n m}, fnvS n l = fnvS m l → n = m := by
  induction l with
  | nil => intro n m h; exact h
  | cons c l ih => intro n m h; exact fnvB_inj (ih h)

theorem fnv_set (l : List Int) (hl : Bytes l) (k : Nat) (hk : k < l.length) (c : Int) (hc : 0 ≤ c ∧ c < 256) (hne : l[k] ≠ c) : fnv l ≠ fnv (l.set k c) := by
  intro h
  unfold fnv fnvS at h
  have e1 : l = l.take k ++ l[k] :: l.drop (k + 1) := by rw [List.getElem_cons_drop, List.take_append_drop]
  have e2 : l.set k c = l.take k ++ c :: l.drop (k + 1) := List.set_eq_take_append_cons_drop.trans (by rw [if_pos hk])
  rw [e2] at h
  conv at h => lhs; rw [e1]
  rw [List.foldl_append, List.foldl_append, List.foldl_cons, List.foldl_cons] at h
  have h2 := fnvS_inj (l.drop (k + 1)) h
  have h3 := mul_prime_inj h2
  have h4 : BitVec.ofInt 64 l[k] = BitVec.ofInt 64 c := by
    rw [BitVec.xor_comm _ (BitVec.ofInt 64 l[k]), BitVec.xor_comm _ (BitVec.ofInt 64 c)] at h3
    exact xor_right_inj h3
  have h5 := congrArg BitVec.toNat h4
  have hk2 := hl l[k] (List.getElem_mem hk)
  rw [BitVec.toNat_ofInt, BitVec.toNat_ofInt] at h5
  apply hne
  omega

def itP {α : Type} (f : α → α) : Nat → α → α
  | 0, n => n
  | k + 1, n => itP f k (f n)
theorem itP_succ {α : Type} (f : α → α) (k : Nat) (n : α) : itP f (k + 1) n = itP f k (f n) := rfl
theorem itP_add {α : Type} (f : α → α) (i j : Nat) : ∀ n, itP f (i + j) n = itP f j (itP f i n) := by
  induction i with
  | zero => intro n; rw [Nat.zero_add]; rfl
  | succ i ih => intro n; rw [Nat.succ_add, itP_succ, itP_succ, ih]
def nouF (k : Nat) (n : BitVec 64) : BitVec 64 := itP mulP k n
theorem nouF_zero (n : BitVec 64) : nouF 0 n = n := rfl
theorem nouF_succ (k : Nat) (n : BitVec 64) : nouF (k + 1) n = nouF k (mulP n) := itP_succ mulP k n
theorem fnvB_zero (s : BitVec 64) : fnvB s 0 = mulP s := by
  unfold fnvB
  congr 1
  apply BitVec.eq_of_toNat_eq
  simp
theorem fnvS_noughts (k : Nat) : ∀ s, fnvS s (List.replicate k 0) = nouF k s := by
  induction k with
  | zero => intro s; rw [nouF_zero]; rfl
  | succ k ih =>
    intro s
    rw [List.replicate_succ, nouF_succ, ← ih, ← fnvB_zero, fnvS, fnvS, List.foldl_cons]
theorem nouF_inj (k : Nat) : ∀ {a b}, nouF k a = nouF k b → a = b := by
  induction k with
  | zero => intro a b h; rw [nouF_zero, nouF_zero] at h; exact h
  | succ k ih => intro a b h; rw [nouF_succ, nouF_succ] at h; exact mul_prime_inj (ih h)
theorem nouF_add (i j : Nat) (n : BitVec 64) : nouF (i + j) n = nouF j (nouF i n) := itP_add mulP i j n
theorem basis_toNat : basis.toNat = 14695981039346656037 := by decide +kernel
theorem prime_toNat : (1099511628211#64).toNat = 1099511628211 := by decide
def mulN (n : Nat) : Nat := n * 1099511628211 % 18446744073709551616
theorem mul_gen (a b : BitVec 64) (p : Nat) (h : b.toNat = p) : (a * b).toNat = a.toNat * p % 18446744073709551616 := by
  rw [BitVec.toNat_mul, h]
theorem mulN_mulP (n : BitVec 64) : (mulP n).toNat = mulN n.toNat := by
  unfold mulP mulN
  exact mul_gen _ _ _ prime_toNat
/-- f of a number that isn't nought (so that the kernel has it as a numeral). -/
def nz (m : Nat) (f : Nat → Bool) : Bool := match m with
  | 0 => false
  | k + 1 => f (k + 1)
theorem nz_true {m : Nat} {f : Nat → Bool} (h : nz m f = true) : f m = true := by
  cases m with
  | zero => cases h
  | succ k => exact h
def bas : Nat := 14695981039346656037
def chkF : Nat → Nat → Bool
  | 0, _ => true
  | k + 1, n => nz (mulN n) fun m => !(Nat.beq m bas) && chkF k m
theorem chkF_succ (k n : Nat) (h : chkF (k + 1) n = true) : mulN n ≠ bas ∧ chkF k (mulN n) = true := by
  have h1 : (fun m => !(Nat.beq m bas) && chkF k m) (mulN n) = true := nz_true h
  generalize mulN n = q at h1 ⊢
  generalize bas = c at h1 ⊢
  simp only [Bool.and_eq_true, Bool.not_eq_true'] at h1
  exact ⟨Nat.ne_of_beq_eq_false h1.1, h1.2⟩
theorem chkF_spec (k : Nat) : ∀ (n : BitVec 64), chkF k n.toNat = true → ∀ j, 1 ≤ j → j ≤ k → nouF j n ≠ basis := by
  induction k with
  | zero => intro n _ j h1 h2; omega
  | succ k ih =>
    intro n h j h1 h2
    have h3 := chkF_succ k _ h
    obtain ⟨j, rfl⟩ : ∃ i, j = i + 1 := ⟨j - 1, by omega⟩
    rw [nouF_succ]
    rw [← mulN_mulP] at h3
    generalize mulP n = q at h3 ⊢
    cases j with
    | zero =>
      intro h4
      rw [nouF_zero] at h4
      rw [h4] at h3
      exact h3.1 basis_toNat
    | succ j => exact ih q h3.2 (j + 1) (by omega) (by omega)
theorem chkF3000 : chkF 3000 basis.toNat = true := by decide +kernel
theorem nouF_ne (a b : Nat) (hb : b ≤ 3000) (hab : a < b) : nouF a basis ≠ nouF b basis := by
  intro h
  obtain ⟨d, rfl⟩ : ∃ d, b = d + a := ⟨b - a, by omega⟩
  rw [nouF_add] at h
  have h2 := nouF_inj a h
  exact chkF_spec 3000 basis chkF3000 d (by omega) (by omega) h2.symm
theorem fnv_noughts (a b : Nat) (ha : a ≤ 3000) (hb : b ≤ 3000) : fnv (List.replicate a 0) = fnv (List.replicate b 0) ↔ a = b := by
  unfold fnv
  rw [fnvS_noughts, fnvS_noughts]
  constructor
  · intro h
    rcases Nat.lt_trichotomy a b with h1 | h1 | h1
    · exact absurd h (nouF_ne a b hb h1)
    · exact h1
    · exact absurd h.symm (nouF_ne b a ha h1)
  · intro h; rw [h]
end CrcMath
