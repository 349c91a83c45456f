/-
  SumTurned: what was sealed (2000 bytes at most) is opened as it was; if bits of it are turned, all within 32 in a row, Open answers ErrSum: the law answers true for every input.
  Conditions: none beyond the row's own.
-/
import Derived.Test.YtijkbnfiphhohaaPSumTurnedx2
namespace Go.Proofs.Ytijkbnfiphhohaa.Pure
open Go.RowKit Go.Proofs.Ytijkbnfiphhohaa.PSumTurned Go.Proofs.YtijkbnfiphhohaaW.PrintWords Go.Proofs.YtijkbnfiphhohaaW.PrintLast Go.Proofs.YtijkbnfiphhohaaW.PrintMore
/-- A bind whose first part is known (by rw, so that the kernel compares no two great terms). -/
theorem bind_of {α β : Type} {o : Option α} {a : α} {f : α → Option β} (h : o = some a) : o.bind f = f a := by
  subst h
  rfl
theorem wrap64_in {n : Int} (h0 : -9223372036854775808 ≤ n) (h1 : n < 9223372036854775808) : wrap64 n = n := by unfold wrap64; omega
theorem rd_at (l : List Int) (i : Nat) (h : i < l.length) : rd l (i : Int) = l[i] := by simp [rd, List.getD_eq_getElem?_getD, List.getElem?_eq_getElem h]
theorem bytes_rd {l : List Int} (hb : CrcMath.Bytes l) (i : Nat) (h : i < l.length) : 0 ≤ rd l (i : Int) ∧ rd l (i : Int) < 256 := by rw [rd_at l i h]; exact hb _ (List.getElem_mem h)
theorem bytes_of_wf {l : List Int} (h : ∀ x ∈ l, (Lit.int .u8 x).wf = true) : CrcMath.Bytes l := by
  intro c hc
  have := h c hc
  have e0 : IntKind.u8.min = 0 := by decide
  have e1 : IntKind.u8.max = 255 := by decide
  simp [Lit.wf, e0, e1] at this
  omega
theorem crcI_range (l : List Int) : 0 ≤ crcI l ∧ crcI l < 4294967296 := by
  unfold crcI
  have := (CrcMath.crc l).isLt
  omega
theorem crcI_bytes (l : List Int) : [crcI l % 256, crcI l / 256 % 256, crcI l / 65536 % 256, crcI l / 16777216 % 256] = CrcMath.le4 (CrcMath.crc l) := by
  unfold crcI CrcMath.le4
  have := (CrcMath.crc l).isLt
  congr 1
  congr 1
  congr 1
  congr 1
  omega
/-- What Seal makes. -/
def sealL (l : List Int) : List Int := l ++ CrcMath.le4 (CrcMath.crc l)
theorem sealL_length (l : List Int) : (sealL l).length = l.length + 4 := by simp [sealL, CrcMath.le4]
theorem bytes_sealL {l : List Int} (hb : CrcMath.Bytes l) : CrcMath.Bytes (sealL l) := by
  intro c hc
  rcases List.mem_append.1 hc with h | h
  · exact hb c h
  · exact CrcMath.bytes_le4 _ c h
theorem shr_at (c : Int) (s n : Nat) (hs : s = 8 * n) (hn : n < 4) : shr .u32 c (wrap64 (8 * (n : Int))) = c / 2 ^ s := by
  unfold shr
  rw [wrap64_in (by omega) (by omega)]
  have : ((8 * (n : Int))).toNat = s := by omega
  rw [this]
  have : min s IntKind.u32.bits = s := by simp [IntKind.bits]; omega
  rw [this]
theorem seal_step (k : Nat) (x : List Int) (c : Int) (n : Nat) (hn : n < 4) (hx : x.length < 140737488355328) : sum_Seal.l0 (k + 1) x c (n : Int) = sum_Seal.l0 k (x ++ [(c / 2 ^ (8 * n)) % 256]) c ((n + 1 : Nat) : Int) := by
  rw [sum_Seal.l0, if_pos (by omega), if_pos (by rw [wrap64_in (by omega) (by omega)]; omega), if_pos hx, shr_at c (8 * n) n rfl hn, wrap64_in (by omega) (by omega)]
  rfl
theorem clone_spec (l : List Int) (hl : l.length < 140737488355328) : slices_Clone_byte_byte.f l = some l := by
  unfold slices_Clone_byte_byte.f
  rw [if_pos hl]
theorem crc_spec (l : List Int) : sum_Crc.f l = some (crcI l) := rfl
theorem seal_spec (k : Nat) (hk : 5 ≤ k) (l : List Int) (hl : l.length + 4 ≤ 65536) : sum_Seal.f k l = some (sealL l, 0) := by
  obtain ⟨k, rfl⟩ : ∃ m, k = m + 1 + 1 + 1 + 1 + 1 := ⟨k - 5, by omega⟩
  unfold sum_Seal.f
  rw [if_neg (by rw [wrap64_in (by omega) (by omega)]; omega), bind_of (clone_spec l (by omega)), bind_of (crc_spec l)]
  have h0 := seal_step (k + 1 + 1 + 1 + 1) l (crcI l) 0 (by omega) (by omega)
  rw [show ((0 : Nat) : Int) = 0 from rfl] at h0
  rw [h0, seal_step (k + 1 + 1 + 1) _ _ 1 (by omega) (by simp; omega), seal_step (k + 1 + 1) _ _ 2 (by omega) (by simp; omega), seal_step (k + 1) _ _ 3 (by omega) (by simp; omega)]
  rw [sum_Seal.l0, if_neg (by omega)]
  unfold sealL
  rw [← crcI_bytes]
  simp
theorem seal_long (k : Nat) (l : List Int) (hl : 65536 < l.length + 4) (hm : l.length ≤ 140737488355328) : sum_Seal.f k l = some ([], 5) := by
  unfold sum_Seal.f
  rw [if_pos (by rw [wrap64_in (by omega) (by omega)]; omega)]
theorem bits_or_add (a b : Int) (s : Nat) (hs : s < 32) (ha0 : 0 ≤ a) (ha : a < 2 ^ s) (hb0 : 0 ≤ b) (hb : b * 2 ^ s < 4294967296) : Go.bits .or .u32 a (b * 2 ^ s) = a + b * 2 ^ s := by
  obtain ⟨a, rfl⟩ := Int.eq_ofNat_of_zero_le ha0
  obtain ⟨b, rfl⟩ := Int.eq_ofNat_of_zero_le hb0
  have ha' : a < 2 ^ s := by exact_mod_cast ha
  have e : ((b : Int) * 2 ^ s) = ((b * 2 ^ s : Nat) : Int) := by simp
  have hb' : b * 2 ^ s < 2 ^ 32 := by
    rw [e] at hb
    omega
  have ha2 : a < 2 ^ 32 := Nat.lt_trans ha' (Nat.pow_lt_pow_right (by omega) hs)
  rw [e, (bits_nat .u32 32 (by decide) (fun n h0 h1 => by rw [IntKind.wrap_u32]; exact Int.emod_eq_of_lt h0 h1) a (b * 2 ^ s) ha2 hb').2]
  rw [Nat.or_comm, Nat.mul_comm b, ← Nat.two_pow_add_eq_or_of_lt ha']
  push_cast
  omega
theorem shl_at (c : Int) (n : Nat) (hn : n < 4) (h0 : 0 ≤ c) (h1 : c < 256) : shl .u32 (c % 4294967296) (wrap64 (8 * (n : Int))) = c * 2 ^ (8 * n) := by
  unfold shl
  rw [wrap64_in (by omega) (by omega)]
  have e : ((8 * (n : Int))).toNat = 8 * n := by omega
  have e2 : min (8 * n) IntKind.u32.bits = 8 * n := by simp [IntKind.bits]; omega
  rw [e, e2, IntKind.wrap_u32]
  have : n = 0 ∨ n = 1 ∨ n = 2 ∨ n = 3 := by omega
  rcases this with rfl | rfl | rfl | rfl <;> simp <;> omega
theorem sealed_step (k : Nat) (x c : Int) (l : List Int) (n s : Nat) (hn : n < 4) (hl : l.length = 4) (hc : rd l (n : Int) = c) (h0 : 0 ≤ c) (h1 : c < 256) (hs : s = 8 * n) (hx0 : 0 ≤ x) (hx : x < 2 ^ s) :
    sum_sealed.l0 (k + 1) x l (l.length : Int) (n : Int) = sum_sealed.l0 k (x + c * 2 ^ s) l (l.length : Int) ((n + 1 : Nat) : Int) := by
  subst hs
  rw [sum_sealed.l0, if_pos (by omega), if_pos (by omega), if_pos (by omega), if_pos (by rw [wrap64_in (by omega) (by omega)]; omega), hc, shl_at c n hn h0 h1, wrap64_in (by omega) (by omega)]
  rw [bits_or_add x c (8 * n) (by omega) hx0 hx h0]
  · rfl
  · have : n = 0 ∨ n = 1 ∨ n = 2 ∨ n = 3 := by omega
    rcases this with rfl | rfl | rfl | rfl <;> simp <;> omega
/-- What four bytes tell. -/
def le4V (l : List Int) : Int := rd l 0 + rd l 1 * 256 + rd l 2 * 65536 + rd l 3 * 16777216
theorem sealed_spec (k : Nat) (hk : 5 ≤ k) (l : List Int) (hb : CrcMath.Bytes l) (hl : l.length = 4) : sum_sealed.f k l = some (le4V l) := by
  obtain ⟨k, rfl⟩ : ∃ m, k = m + 1 + 1 + 1 + 1 + 1 := ⟨k - 5, by omega⟩
  unfold sum_sealed.f
  have b0 : 0 ≤ rd l 0 ∧ rd l 0 < 256 := bytes_rd hb 0 (by omega)
  have b1 : 0 ≤ rd l 1 ∧ rd l 1 < 256 := bytes_rd hb 1 (by omega)
  have b2 : 0 ≤ rd l 2 ∧ rd l 2 < 256 := bytes_rd hb 2 (by omega)
  have b3 : 0 ≤ rd l 3 ∧ rd l 3 < 256 := bytes_rd hb 3 (by omega)
  have h0 := sealed_step (k + 1 + 1 + 1 + 1) 0 _ l 0 0 (by omega) hl rfl b0.1 b0.2 rfl (by omega) (by simp)
  rw [show ((0 : Nat) : Int) = 0 from rfl] at h0
  rw [h0, sealed_step (k + 1 + 1 + 1) _ _ l 1 8 (by omega) hl rfl b1.1 b1.2 rfl (by simp; omega) (by simp; omega)]
  rw [sealed_step (k + 1 + 1) _ _ l 2 16 (by omega) hl rfl b2.1 b2.2 rfl (by simp; omega) (by simp; omega)]
  rw [sealed_step (k + 1) _ _ l 3 24 (by omega) hl rfl b3.1 b3.2 rfl (by simp; omega) (by simp; omega)]
  rw [sum_sealed.l0, if_neg (by omega)]
  unfold le4V
  simp
theorem le4V_ofLe4 (l : List Int) (hb : CrcMath.Bytes l) (hl : l.length = 4) : le4V l = ((CrcMath.ofLe4 l).toNat : Int) := by
  have b0 : 0 ≤ rd l 0 ∧ rd l 0 < 256 := bytes_rd hb 0 (by omega)
  have b1 : 0 ≤ rd l 1 ∧ rd l 1 < 256 := bytes_rd hb 1 (by omega)
  have b2 : 0 ≤ rd l 2 ∧ rd l 2 < 256 := bytes_rd hb 2 (by omega)
  have b3 : 0 ≤ rd l 3 ∧ rd l 3 < 256 := bytes_rd hb 3 (by omega)
  unfold CrcMath.ofLe4 le4V
  rw [BitVec.toNat_ofInt]
  have e0 : rd l 0 = l.getD 0 0 := rfl
  have e1 : rd l 1 = l.getD 1 0 := rfl
  have e2 : rd l 2 = l.getD 2 0 := rfl
  have e3 : rd l 3 = l.getD 3 0 := rfl
  rw [← e0, ← e1, ← e2, ← e3]
  omega
theorem le4V_crc (b t : List Int) (ht : CrcMath.Bytes t) (hl : t.length = 4) : le4V t = crcI b ↔ CrcMath.ofLe4 t = CrcMath.crc b := by
  rw [le4V_ofLe4 t ht hl]
  unfold crcI
  constructor
  · intro h; exact BitVec.eq_of_toNat_eq (by omega)
  · intro h; rw [h]
theorem bytes_take {l : List Int} (hb : CrcMath.Bytes l) (n : Nat) : CrcMath.Bytes (l.take n) := fun c hc => hb c (List.mem_of_mem_take hc)
theorem bytes_drop {l : List Int} (hb : CrcMath.Bytes l) (n : Nat) : CrcMath.Bytes (l.drop n) := fun c hc => hb c (List.mem_of_mem_drop hc)
/-- What Open answers. -/
def openL (l : List Int) : List Int × Int :=
  if l.length > 65536 then ([], 5) else if l.length < 4 then ([], 3) else if le4V (l.drop (l.length - 4)) = crcI (l.take (l.length - 4)) then (l.take (l.length - 4), 0) else ([], 20)
theorem open_spec (k : Nat) (hk : 5 ≤ k) (l : List Int) (hb : CrcMath.Bytes l) (hm : l.length ≤ 140737488355327) : sum_Open.f k l = some (openL l) := by
  unfold sum_Open.f openL
  by_cases h1 : l.length > 65536
  · rw [if_pos (by omega), if_pos h1]
  rw [if_neg (by omega), if_neg h1, wrap64_in (by omega) (by omega)]
  by_cases h2 : l.length < 4
  · rw [if_pos (by omega), if_pos h2]
  have e : ((l.length : Int) - 4).toNat = l.length - 4 := by omega
  rw [if_neg (by omega), if_neg h2, if_pos (by omega), if_pos (by omega), e, bind_of (sealed_spec k hk _ (bytes_drop hb _) (by rw [List.length_drop]; omega)), bind_of (crc_spec _)]
  split
  · rw [bind_of (clone_spec _ (by rw [List.length_take]; omega))]
  · rfl

theorem eq_self (l : List Int) : gimbalref00_EqBytes.f l l = some true := by
  unfold gimbalref00_EqBytes.f
  simp
theorem works_spec : gimballaw02_works.f = some true := rfl
theorem xor8 (a b : Int) (ha : 0 ≤ a ∧ a < 256) (hb : 0 ≤ b ∧ b < 256) : Go.bits .xor .u8 a b = ((a.toNat ^^^ b.toNat : Nat) : Int) ∧ a.toNat ^^^ b.toNat < 256 := by
  obtain ⟨a, rfl⟩ := Int.eq_ofNat_of_zero_le ha.1
  obtain ⟨b, rfl⟩ := Int.eq_ofNat_of_zero_le hb.1
  have ha' : a < 2 ^ 8 := by omega
  have hb' : b < 2 ^ 8 := by omega
  have h := Nat.xor_lt_two_pow ha' hb'
  have e : (BitVec.ofNat 8 a ^^^ BitVec.ofNat 8 b).toNat = a ^^^ b := by
    rw [BitVec.toNat_xor, BitVec.toNat_ofNat, BitVec.toNat_ofNat, Nat.mod_eq_of_lt ha', Nat.mod_eq_of_lt hb']
  refine ⟨?_, h⟩
  show IntKind.u8.wrap (((BitVec.ofInt 8 (a : Int) ^^^ BitVec.ofInt 8 (b : Int)).toNat : Nat) : Int) = _
  rw [BitVec.ofInt_natCast, BitVec.ofInt_natCast, e, IntKind.wrap_u8, Int.toNat_natCast, Int.toNat_natCast]
  exact Int.emod_eq_of_lt (Int.natCast_nonneg _) (Int.ofNat_lt.2 h)
theorem xor8_byte (a b : Int) (ha : 0 ≤ a ∧ a < 256) (hb : 0 ≤ b ∧ b < 256) : 0 ≤ Go.bits .xor .u8 a b ∧ Go.bits .xor .u8 a b < 256 := by
  have := xor8 a b ha hb
  omega
theorem xor8_ne (a b : Int) (ha : 0 ≤ a ∧ a < 256) (hb : 0 ≤ b ∧ b < 256) (hne : b ≠ 0) : a ≠ Go.bits .xor .u8 a b := by
  intro h
  rw [(xor8 a b ha hb).1] at h
  have h2 : a.toNat ^^^ b.toNat = a.toNat := by omega
  have h3 : a.toNat ^^^ (a.toNat ^^^ b.toNat) = a.toNat ^^^ a.toNat := by rw [h2]
  rw [← Nat.xor_assoc, Nat.xor_self, Nat.zero_xor] at h3
  omega
theorem byte_wf {c : Int} (h : (Lit.int .u8 c).wf = true) : 0 ≤ c ∧ c < 256 := by
  have := bytes_of_wf (l := [c]) (fun x hx => by rw [List.mem_singleton] at hx; rw [hx]; exact h)
  exact this c (by simp)

theorem shl_bit (j : Nat) (hj : j < 8) : shl .u8 1 (j : Int) = ((2 ^ j : Nat) : Int) := by
  have : j = 0 ∨ j = 1 ∨ j = 2 ∨ j = 3 ∨ j = 4 ∨ j = 5 ∨ j = 6 ∨ j = 7 := by omega
  rcases this with rfl | rfl | rfl | rfl | rfl | rfl | rfl | rfl <;> decide
theorem and_shr (T i : Nat) (hT : T < 4294967296) (hi : i < 32) : Go.bits .and .u32 (shr .u32 (T : Int) (i : Int)) 1 = if T.testBit i then 1 else 0 := by
  have e : shr .u32 (T : Int) (i : Int) = ((T / 2 ^ i : Nat) : Int) := by
    unfold shr
    have e1 : min ((i : Int)).toNat IntKind.u32.bits = i := by simp [IntKind.bits]; omega
    rw [e1]
    simp
  have hlt : T / 2 ^ i < 4294967296 := Nat.lt_of_le_of_lt (Nat.div_le_self _ _) hT
  have e2 := bits_and32 (BitVec.ofNat 32 (T / 2 ^ i)) 1#32
  rw [show ((1#32).toNat : Int) = 1 from rfl, BitVec.toNat_ofNat, Nat.mod_eq_of_lt hlt, BitVec.toNat_and, BitVec.toNat_ofNat, Nat.mod_eq_of_lt hlt] at e2
  rw [e, e2]
  show ((T / 2 ^ i &&& 1 : Nat) : Int) = _
  rw [Nat.and_one_is_mod, Nat.testBit_eq_decide_div_mod_eq]
  rcases Nat.mod_two_eq_zero_or_one (T / 2 ^ i) with h | h <;> rw [h] <;> simp
theorem rd_getD (x : List Int) (i : Nat) : rd x (i : Int) = x.getD i 0 := by simp [rd]
theorem bitAt_flip (x : List Int) (hb : CrcMath.Bytes x) (p : Nat) (hp : p < 8 * x.length) :
    CrcMath.Bytes (x.set (p / 8) (Go.bits .xor .u8 (rd x ((p / 8 : Nat) : Int)) ((2 ^ (p % 8) : Nat) : Int))) ∧
      ∀ q, CrcMath.bitAt (x.set (p / 8) (Go.bits .xor .u8 (rd x ((p / 8 : Nat) : Int)) ((2 ^ (p % 8) : Nat) : Int))) q = (CrcMath.bitAt x q ^^ decide (q = p)) := by
  have hk : p / 8 < x.length := by omega
  have hr := bytes_rd hb (p / 8) hk
  have h8 : 2 ^ (p % 8) < 256 := Nat.pow_lt_pow_right (by omega) (show p % 8 < 8 by omega)
  have h2 : 0 ≤ ((2 ^ (p % 8) : Nat) : Int) ∧ ((2 ^ (p % 8) : Nat) : Int) < 256 := ⟨Int.natCast_nonneg _, Int.ofNat_lt.2 h8⟩
  have hx := xor8_byte _ _ hr h2
  have hv := (xor8 _ _ hr h2).1
  constructor
  · intro c hc
    rcases List.mem_or_eq_of_mem_set hc with h | h
    · exact hb c h
    · rw [h]; exact hx
  · intro q
    unfold CrcMath.bitAt
    by_cases e : q / 8 = p / 8
    · rw [e]
      have g : (x.set (p / 8) (Go.bits .xor .u8 (rd x ((p / 8 : Nat) : Int)) ((2 ^ (p % 8) : Nat) : Int))).getD (p / 8) 0 = Go.bits .xor .u8 (rd x ((p / 8 : Nat) : Int)) ((2 ^ (p % 8) : Nat) : Int) := by
        rw [List.getD_eq_getElem?_getD, List.getElem?_set_self hk]
        rfl
      rw [g, hv, Int.toNat_natCast, Int.toNat_natCast, Nat.testBit_xor, rd_getD, Nat.testBit_two_pow]
      congr 1
      rw [Bool.eq_iff_iff, decide_eq_true_iff, decide_eq_true_iff]
      omega
    · have g : (x.set (p / 8) (Go.bits .xor .u8 (rd x ((p / 8 : Nat) : Int)) ((2 ^ (p % 8) : Nat) : Int))).getD (q / 8) 0 = x.getD (q / 8) 0 := by
        rw [List.getD_eq_getElem?_getD, List.getElem?_set_ne (by omega), ← List.getD_eq_getElem?_getD]
      rw [g]
      have hne : q ≠ p := fun h => e (by rw [h])
      simp [hne]
/-- x is x0 with those bits turned, of the first i that T tells, from n on; s: was any. -/
def Flipped (x0 : List Int) (n T i : Nat) (x : List Int) (s : Bool) : Prop :=
  x.length = x0.length ∧ CrcMath.Bytes x ∧ (∀ q, CrcMath.bitAt x q = (CrcMath.bitAt x0 q ^^ (decide (n ≤ q ∧ q < n + i ∧ q < 8 * x0.length) && T.testBit (q - n)))) ∧ (s = true ↔ ∃ j, j < i ∧ n + j < 8 * x0.length ∧ T.testBit j = true)
theorem Flipped.start (x0 : List Int) (n T : Nat) (hb : CrcMath.Bytes x0) : Flipped x0 n T 0 x0 false := by
  refine ⟨rfl, hb, fun q => ?_, ?_⟩
  · rw [decide_eq_false (by omega)]
    simp
  · constructor
    · intro h; cases h
    · rintro ⟨j, hj, _⟩; omega
theorem Flipped.skip {x0 : List Int} {n T i : Nat} {x : List Int} {s : Bool} (h : Flipped x0 n T i x s) (hs : T.testBit i = false ∨ 8 * x0.length ≤ n + i) : Flipped x0 n T (i + 1) x s := by
  obtain ⟨h1, h2, h3, h4⟩ := h
  refine ⟨h1, h2, fun q => ?_, ?_⟩
  · rw [h3 q]
    congr 1
    by_cases e : q = n + i
    · subst e
      rcases hs with hs | hs
      · rw [show n + i - n = i by omega, hs]; simp
      · have a : ¬ (n ≤ n + i ∧ n + i < n + i ∧ n + i < 8 * x0.length) := by omega
        have b : ¬ (n ≤ n + i ∧ n + i < n + (i + 1) ∧ n + i < 8 * x0.length) := by omega
        rw [decide_eq_false a, decide_eq_false b]
    · congr 1
      rw [Bool.eq_iff_iff, decide_eq_true_iff, decide_eq_true_iff]
      omega
  · rw [h4]
    constructor
    · rintro ⟨j, a, b, c⟩; exact ⟨j, by omega, b, c⟩
    · rintro ⟨j, a, b, c⟩
      by_cases e : j = i
      · subst e
        rcases hs with hs | hs
        · rw [hs] at c; cases c
        · omega
      · exact ⟨j, by omega, b, c⟩
theorem Flipped.flip {x0 : List Int} {n T i : Nat} {x : List Int} {s : Bool} (h : Flipped x0 n T i x s) (ht : T.testBit i = true) (hp : n + i < 8 * x0.length) :
    Flipped x0 n T (i + 1) (x.set ((n + i) / 8) (Go.bits .xor .u8 (rd x (((n + i) / 8 : Nat) : Int)) ((2 ^ ((n + i) % 8) : Nat) : Int))) true := by
  obtain ⟨h1, h2, h3, h4⟩ := h
  have hf := bitAt_flip x h2 (n + i) (by omega)
  refine ⟨by rw [List.length_set]; exact h1, hf.1, fun q => ?_, ?_⟩
  · rw [hf.2 q, h3 q, Bool.xor_assoc]
    congr 1
    by_cases e : q = n + i
    · subst e
      have a : ¬ (n ≤ n + i ∧ n + i < n + i ∧ n + i < 8 * x0.length) := by omega
      have b : (n ≤ n + i ∧ n + i < n + (i + 1) ∧ n + i < 8 * x0.length) := by omega
      rw [decide_eq_false a, decide_eq_true b, show n + i - n = i by omega, ht]
      simp
    · rw [decide_eq_false e, Bool.xor_false]
      congr 1
      rw [Bool.eq_iff_iff, decide_eq_true_iff, decide_eq_true_iff]
      omega
  · constructor
    · intro _; exact ⟨i, by omega, hp, ht⟩
    · intro _; rfl
theorem sealL_take (l : List Int) : (sealL l).take l.length = l := by
  unfold sealL
  rw [List.take_left']
  rfl
theorem sealL_drop (l : List Int) : (sealL l).drop l.length = CrcMath.le4 (CrcMath.crc l) := by
  unfold sealL
  rw [List.drop_left']
  rfl
theorem open_sealed (l : List Int) (hl : l.length ≤ 65532) : openL (sealL l) = (l, 0) := by
  have hlen := sealL_length l
  unfold openL
  rw [if_neg (by omega), if_neg (by omega), show (sealL l).length - 4 = l.length by omega, sealL_take, sealL_drop, if_pos]
  exact (le4V_crc l _ (CrcMath.bytes_le4 _) rfl).2 (CrcMath.ofLe4_le4 _)
theorem opened_turned (l : List Int) (hb : CrcMath.Bytes l) (n T : Nat) (x : List Int) (h1 : x.length = (sealL l).length) (h2 : CrcMath.Bytes x)
    (h3 : ∀ q, CrcMath.bitAt x q = (CrcMath.bitAt (sealL l) q ^^ (decide (n ≤ q ∧ q < n + 32 ∧ q < 8 * (sealL l).length) && T.testBit (q - n)))) (h4 : ∃ j, j < 32 ∧ n + j < 8 * (sealL l).length ∧ T.testBit j = true) (hl : l.length ≤ 65532) :
    openL x = ([], 20) := by
  have hlen := sealL_length l
  unfold openL
  rw [if_neg (by omega), if_neg (by omega), show x.length - 4 = l.length by omega, if_neg]
  intro he
  have hd : (x.drop l.length).length = 4 := by rw [List.length_drop]; omega
  have he2 := (le4V_crc _ _ (bytes_drop h2 _) hd).1 he
  refine CrcMath.turned_told l (CrcMath.le4 (CrcMath.crc l)) (x.take l.length) (x.drop l.length) (bytes_sealL hb) (by rw [List.take_append_drop]; exact h2) rfl hd (by rw [List.length_take]; omega) (CrcMath.ofLe4_le4 _) n ?_ ?_ ?_ he2
  · intro i hi
    rw [List.take_append_drop, h3 i, decide_eq_false (by omega)]
    show CrcMath.bitAt (sealL l) i = _
    simp
  · intro i hi
    rw [List.take_append_drop, h3 i, decide_eq_false (by omega)]
    show CrcMath.bitAt (sealL l) i = _
    simp
  · obtain ⟨j, a, b, c⟩ := h4
    refine ⟨n + j, b, ?_⟩
    rw [List.take_append_drop, h3 (n + j), decide_eq_true (by omega), show n + j - n = j by omega, c]
    show CrcMath.bitAt (sealL l) (n + j) ≠ _
    cases CrcMath.bitAt (sealL l) (n + j) <;> simp

theorem turned_idx (n i : Nat) (h : n + i < 100000) : wrap64 ((n : Int) + (i : Int)) = ((n + i : Nat) : Int) ∧ wrap64 ((i : Int) + 1) = ((i + 1 : Nat) : Int) := by
  constructor
  · rw [wrap64_in (by omega) (by omega)]
    omega
  · rw [wrap64_in (by omega) (by omega)]
    omega
theorem turned_div (m : Nat) (h : m < 100000) : wrap64 (Int.tdiv (m : Int) 8) = ((m / 8 : Nat) : Int) := by
  have e : Int.tdiv (m : Int) 8 = ((m / 8 : Nat) : Int) := by
    rw [Int.tdiv_eq_ediv_of_nonneg (Int.natCast_nonneg m)]
    omega
  rw [e, wrap64_in (by omega) (by omega)]
theorem turned_mod (m : Nat) : Int.tmod (m : Int) 8 = ((m % 8 : Nat) : Int) := by
  rw [Int.tmod_eq_emod_of_nonneg (Int.natCast_nonneg m)]
  omega
theorem turned_len (m : Nat) (h : m < 100000) : wrap64 (8 * (m : Int)) = ((8 * m : Nat) : Int) := by
  rw [wrap64_in (by omega) (by omega)]
  omega

theorem turned_loop (l : List Int) (hl : l.length ≤ 2000) (hb : CrcMath.Bytes l) (n T : Nat) (hT : T < 4294967296) (hn : n < 8 * (l.length + 4)) (d : Nat) :
    ∀ (k i : Nat) (x : List Int) (s : Bool), i + d = 32 → d + 6 < k → Flipped (sealL l) n T i x s → gimballaw02_SumTurned.l0 k (T : Int) x (n : Int) s (i : Int) = some true := by
  induction d with
  | zero =>
    intro k i x s hd hk hf
    obtain ⟨k, rfl⟩ : ∃ m, k = m + 1 := ⟨k - 1, by omega⟩
    have hi : i = 32 := by omega
    subst hi
    obtain ⟨h1, h2, h3, h4⟩ := hf
    have hlen := sealL_length l
    rw [gimballaw02_SumTurned.l0, if_neg (by omega), bind_of (open_spec k (by omega) x h2 (by omega))]
    cases s with
    | false => rw [if_neg (by decide)]
    | true =>
      rw [if_pos rfl]
      obtain ⟨j, hj, hj2, hj3⟩ := h4.1 rfl
      rw [opened_turned l hb n T x h1 h2 h3 ⟨j, hj, hj2, hj3⟩ (by omega)]
      rfl
  | succ d ih =>
    intro k i x s hd hk hf
    obtain ⟨k, rfl⟩ : ∃ m, k = m + 1 := ⟨k - 1, by omega⟩
    have hlen := sealL_length l
    have hx := hf.1
    rw [gimballaw02_SumTurned.l0, if_pos (by omega), if_pos (by omega), and_shr T i hT (by omega)]
    have hw := turned_idx n i (by omega)
    rw [hw.1, turned_len x.length (by omega), hw.2, turned_div (n + i) (by omega), turned_mod (n + i)]
    by_cases ht : T.testBit i = true
    · rw [if_pos (by rw [ht]; rfl)]
      by_cases hp : n + i < 8 * x.length
      · rw [if_pos (by omega), if_pos (by omega), if_pos (by omega), if_pos (by omega), shl_bit _ (Nat.mod_lt _ (by omega)), Int.toNat_natCast]
        exact ih k (i + 1) _ true (by omega) (by omega) (hf.flip ht (by omega))
      · rw [if_neg (by omega)]
        exact ih k (i + 1) x s (by omega) (by omega) (hf.skip (.inr (by omega)))
    · have ht' : T.testBit i = false := by simpa using ht
      rw [if_neg (by rw [ht']; decide)]
      exact ih k (i + 1) x s (by omega) (by omega) (hf.skip (.inl ht'))
theorem SumTurned : gimballaw02_SumTurned.Pure := by
  intro l0 a1 a2 hm hlen hwf hw1 hw2
  have hb := bytes_of_wf hwf
  have h2 : 0 ≤ a2 ∧ a2 < 4294967296 := by
    have e0 : IntKind.u32.min = 0 := by decide
    have e1 : IntKind.u32.max = 4294967295 := by decide
    simp [Lit.wf, e0, e1] at hw2
    omega
  obtain ⟨n, hn⟩ : ∃ n, n = min l0.length 2000 := ⟨_, rfl⟩
  have hmn : mn (l0.length : Int) 2000 = (n : Int) := by
    unfold mn
    split <;> omega
  have hl : (l0.take n).length = n := by rw [List.length_take]; omega
  have hbl := bytes_take hb n
  obtain ⟨K, hK⟩ : ∃ K : Nat, 39999 ≤ K := ⟨39999, Nat.le_refl _⟩
  refine ⟨K + 1, ?_⟩
  unfold gimballaw02_SumTurned.f
  rw [bind_of works_spec, if_pos rfl, hmn, if_pos (by omega), if_pos (by omega), Int.toNat_natCast]
  generalize l0.take n = l at hl hbl ⊢
  have hsl := sealL_length l
  rw [bind_of (seal_spec (K + 1) (by omega) l (by omega)), bind_of (open_spec (K + 1) (by omega) (sealL l) (bytes_sealL hbl) (by omega)), open_sealed l (by omega), if_pos rfl, if_pos rfl, bind_of (eq_self _), if_pos rfl, wrap64_in (by omega) (by omega)]
  have e : (((sealL l).length : Int) != (l.length : Int) + 4) = false := by
    rw [bne_eq_false_iff_eq]
    omega
  rw [e, gimballaw02_SumTurned.j0, if_neg (by decide)]
  split
  · rfl
  have r0 := Int.emod_nonneg a1 (show (8 * ((sealL l).length : Int)) ≠ 0 by omega)
  have r1 := Int.emod_lt_of_pos a1 (show (0 : Int) < 8 * ((sealL l).length : Int) by omega)
  have hbr : gimbalref00_Bring.f a1 (8 * ((sealL l).length : Int)) = some (a1 % (8 * ((sealL l).length : Int))) := by
    unfold gimbalref00_Bring.f
    rw [if_pos ⟨by omega, by omega⟩]
  rw [show ((sealL l, (0 : Int)).1) = sealL l from rfl, wrap64_in (by omega) (by omega), bind_of hbr]
  obtain ⟨p, hp⟩ := Int.eq_ofNat_of_zero_le r0
  rw [hp] at r1 ⊢
  obtain ⟨T, rfl⟩ := Int.eq_ofNat_of_zero_le h2.1
  exact turned_loop l (by omega) hbl p T (by omega) (by omega) 32 K 0 (sealL l) false (by omega) (by omega) (Flipped.start _ p T (bytes_sealL hbl))

end Go.Proofs.Ytijkbnfiphhohaa.Pure
