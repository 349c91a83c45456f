/-
  SumKnown: the closed statement of the sums: each byte alone and in a row of four, the longest text that can be sealed, and one byte more: the law answers true.
  Conditions: none.
-/
import Derived.Test.YtijkbnfiphhohaaPSumKnownx3
namespace Go.Proofs.Ytijkbnfiphhohaa.Pure
open Go.RowKit Go.Proofs.Ytijkbnfiphhohaa.PSumKnown Go.Proofs.YtijkbnfiphhohaaW.PrintWords Go.Proofs.YtijkbnfiphhohaaW.PrintLast Go.Proofs.YtijkbnfiphhohaaW.PrintMore
/-- A bind whose first part is known (by rw, so that the kernel compares no two great terms). -/
theorem bind_of {α β : Type} {o : Option α} {a : α} {f : α → Option β} (h : o = some a) : o.bind f = f a := by
  subst h
  rfl
theorem wrap64_in {n : Int} (h0 : -9223372036854775808 ≤ n) (h1 : n < 9223372036854775808) : wrap64 n = n := by unfold wrap64; omega
theorem rd_at (l : List Int) (i : Nat) (h : i < l.length) : rd l (i : Int) = l[i] := by simp [rd, List.getD_eq_getElem?_getD, List.getElem?_eq_getElem h]
theorem bytes_rd {l : List Int} (hb : CrcMath.Bytes l) (i : Nat) (h : i < l.length) : 0 ≤ rd l (i : Int) ∧ rd l (i : Int) < 256 := by rw [rd_at l i h]; exact hb _ (List.getElem_mem h)
theorem bytes_of_wf {l : List Int} (h : ∀ x ∈ l, (Lit.int .u8 x).wf = true) : CrcMath.Bytes l := by
  intro c hc
  have := h c hc
  have e0 : IntKind.u8.min = 0 := by decide
  have e1 : IntKind.u8.max = 255 := by decide
  simp [Lit.wf, e0, e1] at this
  omega
theorem crcI_range (l : List Int) : 0 ≤ crcI l ∧ crcI l < 4294967296 := by
  unfold crcI
  have := (CrcMath.crc l).isLt
  omega
theorem crcI_bytes (l : List Int) : [crcI l % 256, crcI l / 256 % 256, crcI l / 65536 % 256, crcI l / 16777216 % 256] = CrcMath.le4 (CrcMath.crc l) := by
  unfold crcI CrcMath.le4
  have := (CrcMath.crc l).isLt
  congr 1
  congr 1
  congr 1
  congr 1
  omega
/-- What Seal makes. -/
def sealL (l : List Int) : List Int := l ++ CrcMath.le4 (CrcMath.crc l)
theorem sealL_length (l : List Int) : (sealL l).length = l.length + 4 := by simp [sealL, CrcMath.le4]
theorem bytes_sealL {l : List Int} (hb : CrcMath.Bytes l) : CrcMath.Bytes (sealL l) := by
  intro c hc
  rcases List.mem_append.1 hc with h | h
  · exact hb c h
  · exact CrcMath.bytes_le4 _ c h
theorem shr_at (c : Int) (s n : Nat) (hs : s = 8 * n) (hn : n < 4) : shr .u32 c (wrap64 (8 * (n : Int))) = c / 2 ^ s := by
  unfold shr
  rw [wrap64_in (by omega) (by omega)]
  have : ((8 * (n : Int))).toNat = s := by omega
  rw [this]
  have : min s IntKind.u32.bits = s := by simp [IntKind.bits]; omega
  rw [this]
theorem seal_step (k : Nat) (x : List Int) (c : Int) (n : Nat) (hn : n < 4) (hx : x.length < 140737488355328) : sum_Seal.l0 (k + 1) x c (n : Int) = sum_Seal.l0 k (x ++ [(c / 2 ^ (8 * n)) % 256]) c ((n + 1 : Nat) : Int) := by
  rw [sum_Seal.l0, if_pos (by omega), if_pos (by rw [wrap64_in (by omega) (by omega)]; omega), if_pos hx, shr_at c (8 * n) n rfl hn, wrap64_in (by omega) (by omega)]
  rfl
theorem clone_spec (l : List Int) (hl : l.length < 140737488355328) : slices_Clone_byte_byte.f l = some l := by
  unfold slices_Clone_byte_byte.f
  rw [if_pos hl]
theorem crc_spec (l : List Int) : sum_Crc.f l = some (crcI l) := rfl
theorem seal_spec (k : Nat) (hk : 5 ≤ k) (l : List Int) (hl : l.length + 4 ≤ 65536) : sum_Seal.f k l = some (sealL l, 0) := by
  obtain ⟨k, rfl⟩ : ∃ m, k = m + 1 + 1 + 1 + 1 + 1 := ⟨k - 5, by omega⟩
  unfold sum_Seal.f
  rw [if_neg (by rw [wrap64_in (by omega) (by omega)]; omega), bind_of (clone_spec l (by omega)), bind_of (crc_spec l)]
  have h0 := seal_step (k + 1 + 1 + 1 + 1) l (crcI l) 0 (by omega) (by omega)
  rw [show ((0 : Nat) : Int) = 0 from rfl] at h0
  rw [h0, seal_step (k + 1 + 1 + 1) _ _ 1 (by omega) (by simp; omega), seal_step (k + 1 + 1) _ _ 2 (by omega) (by simp; omega), seal_step (k + 1) _ _ 3 (by omega) (by simp; omega)]
  rw [sum_Seal.l0, if_neg (by omega)]
  unfold sealL
  rw [← crcI_bytes]
  simp
theorem seal_long (k : Nat) (l : List Int) (hl : 65536 < l.length + 4) (hm : l.length ≤ 140737488355328) : sum_Seal.f k l = some ([], 5) := by
  unfold sum_Seal.f
  rw [if_pos (by rw [wrap64_in (by omega) (by omega)]; omega)]
theorem bits_or_add (a b : Int) (s : Nat) (hs : s < 32) (ha0 : 0 ≤ a) (ha : a < 2 ^ s) (hb0 : 0 ≤ b) (hb : b * 2 ^ s < 4294967296) : Go.bits .or .u32 a (b * 2 ^ s) = a + b * 2 ^ s := by
  obtain ⟨a, rfl⟩ := Int.eq_ofNat_of_zero_le ha0
  obtain ⟨b, rfl⟩ := Int.eq_ofNat_of_zero_le hb0
  have ha' : a < 2 ^ s := by exact_mod_cast ha
  have e : ((b : Int) * 2 ^ s) = ((b * 2 ^ s : Nat) : Int) := by simp
  have hb' : b * 2 ^ s < 2 ^ 32 := by
    rw [e] at hb
    omega
  have ha2 : a < 2 ^ 32 := Nat.lt_trans ha' (Nat.pow_lt_pow_right (by omega) hs)
  rw [e, (bits_nat .u32 32 (by decide) (fun n h0 h1 => by rw [IntKind.wrap_u32]; exact Int.emod_eq_of_lt h0 h1) a (b * 2 ^ s) ha2 hb').2]
  rw [Nat.or_comm, Nat.mul_comm b, ← Nat.two_pow_add_eq_or_of_lt ha']
  push_cast
  omega
theorem shl_at (c : Int) (n : Nat) (hn : n < 4) (h0 : 0 ≤ c) (h1 : c < 256) : shl .u32 (c % 4294967296) (wrap64 (8 * (n : Int))) = c * 2 ^ (8 * n) := by
  unfold shl
  rw [wrap64_in (by omega) (by omega)]
  have e : ((8 * (n : Int))).toNat = 8 * n := by omega
  have e2 : min (8 * n) IntKind.u32.bits = 8 * n := by simp [IntKind.bits]; omega
  rw [e, e2, IntKind.wrap_u32]
  have : n = 0 ∨ n = 1 ∨ n = 2 ∨ n = 3 := by omega
  rcases this with rfl | rfl | rfl | rfl <;> simp <;> omega
theorem sealed_step (k : Nat) (x c : Int) (l : List Int) (n s : Nat) (hn : n < 4) (hl : l.length = 4) (hc : rd l (n : Int) = c) (h0 : 0 ≤ c) (h1 : c < 256) (hs : s = 8 * n) (hx0 : 0 ≤ x) (hx : x < 2 ^ s) :
    sum_sealed.l0 (k + 1) x l (l.length : Int) (n : Int) = sum_sealed.l0 k (x + c * 2 ^ s) l (l.length : Int) ((n + 1 : Nat) : Int) := by
  subst hs
  rw [sum_sealed.l0, if_pos (by omega), if_pos (by omega), if_pos (by omega), if_pos (by rw [wrap64_in (by omega) (by omega)]; omega), hc, shl_at c n hn h0 h1, wrap64_in (by omega) (by omega)]
  rw [bits_or_add x c (8 * n) (by omega) hx0 hx h0]
  · rfl
  · have : n = 0 ∨ n = 1 ∨ n = 2 ∨ n = 3 := by omega
    rcases this with rfl | rfl | rfl | rfl <;> simp <;> omega
/-- What four bytes tell. -/
def le4V (l : List Int) : Int := rd l 0 + rd l 1 * 256 + rd l 2 * 65536 + rd l 3 * 16777216
theorem sealed_spec (k : Nat) (hk : 5 ≤ k) (l : List Int) (hb : CrcMath.Bytes l) (hl : l.length = 4) : sum_sealed.f k l = some (le4V l) := by
  obtain ⟨k, rfl⟩ : ∃ m, k = m + 1 + 1 + 1 + 1 + 1 := ⟨k - 5, by omega⟩
  unfold sum_sealed.f
  have b0 : 0 ≤ rd l 0 ∧ rd l 0 < 256 := bytes_rd hb 0 (by omega)
  have b1 : 0 ≤ rd l 1 ∧ rd l 1 < 256 := bytes_rd hb 1 (by omega)
  have b2 : 0 ≤ rd l 2 ∧ rd l 2 < 256 := bytes_rd hb 2 (by omega)
  have b3 : 0 ≤ rd l 3 ∧ rd l 3 < 256 := bytes_rd hb 3 (by omega)
  have h0 := sealed_step (k + 1 + 1 + 1 + 1) 0 _ l 0 0 (by omega) hl rfl b0.1 b0.2 rfl (by omega) (by simp)
  rw [show ((0 : Nat) : Int) = 0 from rfl] at h0
  rw [h0, sealed_step (k + 1 + 1 + 1) _ _ l 1 8 (by omega) hl rfl b1.1 b1.2 rfl (by simp; omega) (by simp; omega)]
  rw [sealed_step (k + 1 + 1) _ _ l 2 16 (by omega) hl rfl b2.1 b2.2 rfl (by simp; omega) (by simp; omega)]
  rw [sealed_step (k + 1) _ _ l 3 24 (by omega) hl rfl b3.1 b3.2 rfl (by simp; omega) (by simp; omega)]
  rw [sum_sealed.l0, if_neg (by omega)]
  unfold le4V
  simp
theorem le4V_ofLe4 (l : List Int) (hb : CrcMath.Bytes l) (hl : l.length = 4) : le4V l = ((CrcMath.ofLe4 l).toNat : Int) := by
  have b0 : 0 ≤ rd l 0 ∧ rd l 0 < 256 := bytes_rd hb 0 (by omega)
  have b1 : 0 ≤ rd l 1 ∧ rd l 1 < 256 := bytes_rd hb 1 (by omega)
  have b2 : 0 ≤ rd l 2 ∧ rd l 2 < 256 := bytes_rd hb 2 (by omega)
  have b3 : 0 ≤ rd l 3 ∧ rd l 3 < 256 := bytes_rd hb 3 (by omega)
  unfold CrcMath.ofLe4 le4V
  rw [BitVec.toNat_ofInt]
  have e0 : rd l 0 = l.getD 0 0 := rfl
  have e1 : rd l 1 = l.getD 1 0 := rfl
  have e2 : rd l 2 = l.getD 2 0 := rfl
  have e3 : rd l 3 = l.getD 3 0 := rfl
  rw [← e0, ← e1, ← e2, ← e3]
  omega
theorem le4V_crc (b t : List Int) (ht : CrcMath.Bytes t) (hl : t.length = 4) : le4V t = crcI b ↔ CrcMath.ofLe4 t = CrcMath.crc b := by
  rw [le4V_ofLe4 t ht hl]
  unfold crcI
  constructor
  · intro h; exact BitVec.eq_of_toNat_eq (by omega)
  · intro h; rw [h]
theorem bytes_take {l : List Int} (hb : CrcMath.Bytes l) (n : Nat) : CrcMath.Bytes (l.take n) := fun c hc => hb c (List.mem_of_mem_take hc)
theorem bytes_drop {l : List Int} (hb : CrcMath.Bytes l) (n : Nat) : CrcMath.Bytes (l.drop n) := fun c hc => hb c (List.mem_of_mem_drop hc)
/-- What Open answers. -/
def openL (l : List Int) : List Int × Int :=
  if l.length > 65536 then ([], 5) else if l.length < 4 then ([], 3) else if le4V (l.drop (l.length - 4)) = crcI (l.take (l.length - 4)) then (l.take (l.length - 4), 0) else ([], 20)
theorem open_spec (k : Nat) (hk : 5 ≤ k) (l : List Int) (hb : CrcMath.Bytes l) (hm : l.length ≤ 140737488355327) : sum_Open.f k l = some (openL l) := by
  unfold sum_Open.f openL
  by_cases h1 : l.length > 65536
  · rw [if_pos (by omega), if_pos h1]
  rw [if_neg (by omega), if_neg h1, wrap64_in (by omega) (by omega)]
  by_cases h2 : l.length < 4
  · rw [if_pos (by omega), if_pos h2]
  have e : ((l.length : Int) - 4).toNat = l.length - 4 := by omega
  rw [if_neg (by omega), if_neg h2, if_pos (by omega), if_pos (by omega), e, bind_of (sealed_spec k hk _ (bytes_drop hb _) (by rw [List.length_drop]; omega)), bind_of (crc_spec _)]
  split
  · rw [bind_of (clone_spec _ (by rw [List.length_take]; omega))]
  · rfl

theorem eq_self (l : List Int) : gimbalref00_EqBytes.f l l = some true := by
  unfold gimbalref00_EqBytes.f
  simp
theorem works_spec : gimballaw02_works.f = some true := rfl
theorem xor8 (a b : Int) (ha : 0 ≤ a ∧ a < 256) (hb : 0 ≤ b ∧ b < 256) : Go.bits .xor .u8 a b = ((a.toNat ^^^ b.toNat : Nat) : Int) ∧ a.toNat ^^^ b.toNat < 256 := by
  obtain ⟨a, rfl⟩ := Int.eq_ofNat_of_zero_le ha.1
  obtain ⟨b, rfl⟩ := Int.eq_ofNat_of_zero_le hb.1
  have ha' : a < 2 ^ 8 := by omega
  have hb' : b < 2 ^ 8 := by omega
  have h := Nat.xor_lt_two_pow ha' hb'
  have e : (BitVec.ofNat 8 a ^^^ BitVec.ofNat 8 b).toNat = a ^^^ b := by
    rw [BitVec.toNat_xor, BitVec.toNat_ofNat, BitVec.toNat_ofNat, Nat.mod_eq_of_lt ha', Nat.mod_eq_of_lt hb']
  refine ⟨?_, h⟩
  show IntKind.u8.wrap (((BitVec.ofInt 8 (a : Int) ^^^ BitVec.ofInt 8 (b : Int)).toNat : Nat) : Int) = _
  rw [BitVec.ofInt_natCast, BitVec.ofInt_natCast, e, IntKind.wrap_u8, Int.toNat_natCast, Int.toNat_natCast]
  exact Int.emod_eq_of_lt (Int.natCast_nonneg _) (Int.ofNat_lt.2 h)
theorem xor8_byte (a b : Int) (ha : 0 ≤ a ∧ a < 256) (hb : 0 ≤ b ∧ b < 256) : 0 ≤ Go.bits .xor .u8 a b ∧ Go.bits .xor .u8 a b < 256 := by
  have := xor8 a b ha hb
  omega
theorem xor8_ne (a b : Int) (ha : 0 ≤ a ∧ a < 256) (hb : 0 ≤ b ∧ b < 256) (hne : b ≠ 0) : a ≠ Go.bits .xor .u8 a b := by
  intro h
  rw [(xor8 a b ha hb).1] at h
  have h2 : a.toNat ^^^ b.toNat = a.toNat := by omega
  have h3 : a.toNat ^^^ (a.toNat ^^^ b.toNat) = a.toNat ^^^ a.toNat := by rw [h2]
  rw [← Nat.xor_assoc, Nat.xor_self, Nat.zero_xor] at h3
  omega
theorem byte_wf {c : Int} (h : (Lit.int .u8 c).wf = true) : 0 ≤ c ∧ c < 256 := by
  have := bytes_of_wf (l := [c]) (fun x hx => by rw [List.mem_singleton] at hx; rw [hx]; exact h)
  exact this c (by simp)

theorem bits_xor64 (a b : BitVec 64) : Go.bits .xor .u64 (a.toNat : Int) (b.toNat : Int) = ((a ^^^ b).toNat : Int) := by
  unfold Go.bits
  have h := (a ^^^ b).isLt
  simp only [IntKind.bits, BitVec.ofInt_natCast, BitVec.ofNat_toNat, BitVec.setWidth_eq]
  have e : ∀ n : Int, IntKind.u64.wrap n = n % 18446744073709551616 := fun n => by simp [IntKind.wrap, IntKind.bits, IntKind.signed]
  rw [e]
  exact Int.emod_eq_of_lt (Int.natCast_nonneg _) (Int.ofNat_lt.2 h)
theorem wrap_u64 (n : Int) : IntKind.u64.wrap n = n % 18446744073709551616 := by simp [IntKind.wrap, IntKind.bits, IntKind.signed]
theorem wrap_byte64 (c : Int) : IntKind.u64.wrap c = ((BitVec.ofInt 64 c).toNat : Int) := by
  rw [wrap_u64, BitVec.toNat_ofInt]
  omega
theorem fnv_step (v : BitVec 64) (c : Int) : IntKind.u64.wrap ((Go.bits .xor .u64 (v.toNat : Int) (IntKind.u64.wrap c)) * 1099511628211) = ((CrcMath.fnvB v c).toNat : Int) := by
  have e0 := wrap_byte64 c
  rw [e0, bits_xor64, wrap_u64]
  unfold CrcMath.fnvB
  generalize v ^^^ BitVec.ofInt 64 c = q
  rw [CrcMath.mulN_mulP]
  unfold CrcMath.mulN
  omega
def fnvI (l : List Int) : Int := ((CrcMath.fnv l).toNat : Int)
theorem fnvS_snoc (s : BitVec 64) (l : List Int) (k : Nat) (h : k < l.length) : CrcMath.fnvS s (l.take (k + 1)) = CrcMath.fnvB (CrcMath.fnvS s (l.take k)) (rd l (k : Int)) := by
  rw [List.take_succ_eq_append_getElem h, rd_at l k h]
  unfold CrcMath.fnvS
  rw [List.foldl_append]
  rfl
theorem fnv_loop (l : List Int) (hl : l.length ≤ 140737488355328) (d : Nat) : ∀ (k i : Nat), i + d = l.length → d < k → sum_Fnv.l0 k ((CrcMath.fnvS CrcMath.basis (l.take i)).toNat : Int) l (l.length : Int) (i : Int) = some (fnvI l) := by
  induction d with
  | zero =>
    intro k i hd hk
    obtain ⟨k, rfl⟩ : ∃ m, k = m + 1 := ⟨k - 1, by omega⟩
    rw [sum_Fnv.l0, if_neg (by omega), List.take_of_length_le (by omega)]
    rfl
  | succ d ih =>
    intro k i hd hk
    obtain ⟨k, rfl⟩ : ∃ m, k = m + 1 := ⟨k - 1, by omega⟩
    rw [sum_Fnv.l0, if_pos (by omega), if_pos (by omega), if_pos (by omega), fnv_step, ← fnvS_snoc CrcMath.basis l i (by omega), wrap64_in (by omega) (by omega)]
    have := ih k (i + 1) (by omega) (by omega)
    simpa using this
theorem fnv_spec (k : Nat) (l : List Int) (hl : l.length ≤ 140737488355328) (hk : l.length < k) : sum_Fnv.f k l = some (fnvI l) := by
  have := fnv_loop l hl l.length k 0 (by omega) hk
  rw [List.take_zero] at this
  have e : ((CrcMath.fnvS CrcMath.basis []).toNat : Int) = 14695981039346656037 := by decide +kernel
  rw [e] at this
  exact this

theorem copy_spec (l : List Int) (hl : l.length < 140737488355328) : gimbalref00_CopyBytes.f l = some l := by
  unfold gimbalref00_CopyBytes.f
  rw [if_pos (by simpa using hl)]
  rfl

theorem rfnv_loop (l : List Int) (hl : l.length ≤ 140737488355328) (d : Nat) : ∀ (k i : Nat), i + d = l.length → d < k → gimbalref02_Fnv.l0 k l ((CrcMath.fnvS CrcMath.basis (l.take i)).toNat : Int) (i : Int) = some (fnvI l) := by
  induction d with
  | zero =>
    intro k i hd hk
    obtain ⟨k, rfl⟩ : ∃ m, k = m + 1 := ⟨k - 1, by omega⟩
    rw [gimbalref02_Fnv.l0, if_neg (by omega), List.take_of_length_le (by omega)]
    rfl
  | succ d ih =>
    intro k i hd hk
    obtain ⟨k, rfl⟩ : ∃ m, k = m + 1 := ⟨k - 1, by omega⟩
    rw [gimbalref02_Fnv.l0, if_pos (by omega), if_pos (by omega), fnv_step, ← fnvS_snoc CrcMath.basis l i (by omega), wrap64_in (by omega) (by omega)]
    have := ih k (i + 1) (by omega) (by omega)
    simpa using this
theorem rfnv_spec (k : Nat) (l : List Int) (hl : l.length ≤ 140737488355328) (hk : l.length < k) : gimbalref02_Fnv.f k l = some (fnvI l) := by
  have := rfnv_loop l hl l.length k 0 (by omega) hk
  rw [List.take_zero] at this
  have e : ((CrcMath.fnvS CrcMath.basis []).toNat : Int) = 14695981039346656037 := by decide +kernel
  rw [e] at this
  exact this
theorem rseal_spec (k : Nat) (l : List Int) (hl : l.length + 4 ≤ 65536) (hk : 10 * l.length < k) : gimbalref02_Seal.f k l = some (sealL l, 0) := by
  unfold gimbalref02_Seal.f
  rw [if_neg (by rw [wrap64_in (by omega) (by omega)]; omega), bind_of (refCrc_spec l (by omega) k hk), bind_of (copy_spec l (by omega)), crcI_bytes, bind_of rfl, if_pos (by simp [CrcMath.le4]; omega)]
  rfl
theorem rd_drop (l : List Int) (m j : Nat) (h : m + j < l.length) : rd (l.drop m) (j : Int) = rd l ((m + j : Nat) : Int) := by
  rw [rd_at l (m + j) h, rd_at (l.drop m) j (by rw [List.length_drop]; omega), List.getElem_drop]
theorem ropen_spec (l : List Int) (hb : CrcMath.Bytes l) : gimbalref02_Open.f l = some (openL l) := by
  unfold gimbalref02_Open.f openL
  by_cases h1 : l.length > 65536
  · rw [if_pos h1, if_pos h1]
  rw [if_neg h1, if_neg h1]
  by_cases h2 : l.length < 4
  · rw [if_pos h2, if_pos h2]
  rw [if_neg h2, if_neg h2]
  have e : sum4 l (l.length - 4) = le4V (l.drop (l.length - 4)) := by
    unfold sum4 le4V
    have hm : l.length - 4 + 4 = l.length := by omega
    have d0 := rd_drop l (l.length - 4) 0 (by omega)
    have d1 := rd_drop l (l.length - 4) 1 (by omega)
    have d2 := rd_drop l (l.length - 4) 2 (by omega)
    have d3 := rd_drop l (l.length - 4) 3 (by omega)
    have b0 := bytes_rd hb (l.length - 4) (by omega)
    have b1 := bytes_rd hb (l.length - 4 + 1) (by omega)
    have b2 := bytes_rd hb (l.length - 4 + 2) (by omega)
    have b3 := bytes_rd hb (l.length - 4 + 3) (by omega)
    rw [Nat.add_zero] at d0
    rw [show rd (l.drop (l.length - 4)) 0 = _ from d0, show rd (l.drop (l.length - 4)) 1 = _ from d1, show rd (l.drop (l.length - 4)) 2 = _ from d2, show rd (l.drop (l.length - 4)) 3 = _ from d3]
    omega
  rw [e]
  split <;> rfl
theorem tells_loop (a b : List Int) (d : Nat) : ∀ (k i : Nat) (x : List Int), i + d = x.length → d < k → x.length ≤ 3000 → gimballaw02_SumTells.l0 k x a a b b (i : Int) = some true := by
  induction d with
  | zero =>
    intro k i x hd hk hx
    obtain ⟨k, rfl⟩ : ∃ m, k = m + 1 := ⟨k - 1, by omega⟩
    rw [gimballaw02_SumTells.l0, if_neg (by omega), eq_self, eq_self]
    rfl
  | succ d ih =>
    intro k i x hd hk hx
    obtain ⟨k, rfl⟩ : ∃ m, k = m + 1 := ⟨k - 1, by omega⟩
    rw [gimballaw02_SumTells.l0, if_pos (by omega), if_pos (by omega), wrap64_in (by omega) (by omega)]
    have := ih k (i + 1) (x.set (i : Int).toNat (Go.bits .xor .u8 (rd x (i : Int)) 90)) (by rw [List.length_set]; omega) (by omega) (by rw [List.length_set]; omega)
    simpa using this
theorem tells_spec (l0 : List Int) (hb : CrcMath.Bytes l0) (hlen : l0.length ≤ 140737488351232) (K : Nat) (hK : 39999 ≤ K) : gimballaw02_SumTells.f (K + 1) l0 = some true := by
  obtain ⟨n, hn⟩ : ∃ n, n = min l0.length 3000 := ⟨_, rfl⟩
  have hmn : mn (l0.length : Int) 3000 = (n : Int) := by
    unfold mn
    split <;> omega
  have hl : (l0.take n).length = n := by rw [List.length_take]; omega
  have hbl := bytes_take hb n
  unfold gimballaw02_SumTells.f
  rw [hmn, if_pos (by omega), if_pos (by omega), Int.toNat_natCast]
  generalize l0.take n = l at hl hbl ⊢
  rw [bind_of (copy_spec l (by omega)), bind_of (seal_spec (K + 1) (by omega) l (by omega)), bind_of (rseal_spec (K + 1) l (by omega) (by omega)), bind_of (open_spec (K + 1) (by omega) l hbl (by omega)), bind_of (ropen_spec l hbl), bind_of (crc_spec l), bind_of (refCrc_spec l (by omega) (K + 1) (by omega)), if_pos rfl, bind_of (fnv_spec (K + 1) l (by omega) (by omega)), bind_of (rfnv_spec (K + 1) l (by omega) (by omega)), if_pos rfl, bind_of (eq_self _), if_pos rfl, if_pos rfl, bind_of (eq_self _), if_pos rfl, if_pos rfl, bind_of (eq_self _)]
  rw [gimballaw02_SumTells.j0, if_neg (by decide)]
  exact tells_loop _ _ l.length K 0 l (by omega) (by omega) (by omega)


theorem sealL_take (l : List Int) : (sealL l).take l.length = l := by
  unfold sealL
  rw [List.take_left']
  rfl
theorem sealL_drop (l : List Int) : (sealL l).drop l.length = CrcMath.le4 (CrcMath.crc l) := by
  unfold sealL
  rw [List.drop_left']
  rfl
theorem open_sealed (l : List Int) (hl : l.length ≤ 65532) : openL (sealL l) = (l, 0) := by
  have hlen := sealL_length l
  unfold openL
  rw [if_neg (by omega), if_neg (by omega), show (sealL l).length - 4 = l.length by omega, sealL_take, sealL_drop, if_pos]
  exact (le4V_crc l _ (CrcMath.bytes_le4 _) rfl).2 (CrcMath.ofLe4_le4 _)

theorem open_long (k : Nat) (l : List Int) (h1 : 65536 < l.length) : sum_Open.f k l = some ([], 5) := by
  unfold sum_Open.f
  rw [if_pos (by omega)]
theorem bytes_noughts (n : Nat) : CrcMath.Bytes (List.replicate n 0) := fun c hc => by
  have := List.eq_of_mem_replicate hc
  omega
theorem known_end (k : Nat) (hk : 39999 ≤ k) : gimballaw02_SumKnown.l0 (k + 1 + 1) 256 = some true := by
  rw [gimballaw02_SumKnown.l0, if_neg (by omega), if_pos (by omega), bind_of rfl]
  obtain ⟨n, hn⟩ : ∃ n : Nat, n = 65532 := ⟨_, rfl⟩
  rw [← hn]
  have hl : (List.replicate n (0 : Int)).length = n := List.length_replicate
  have hb := bytes_noughts n
  generalize List.replicate n (0 : Int) = l at hl hb ⊢
  have hsl := sealL_length l
  rw [bind_of (seal_spec (k + 1) (by omega) l (by omega)), if_pos (by omega), bind_of (seal_long (k + 1) (l ++ [0]) (by simp; omega) (by simp; omega)), bind_of (open_spec (k + 1) (by omega) (sealL l) (bytes_sealL hb) (by omega)), if_pos (show (sealL l, (0 : Int)).1.length < 140737488355328 by show (sealL l).length < _; omega), bind_of (open_long (k + 1) (sealL l ++ [0]) (by simp; omega)), bind_of works_spec, if_pos rfl, bind_of (tells_spec [] (fun c hc => by cases hc) (by simp) k hk), if_pos rfl, if_pos rfl, if_pos (show (((sealL l, (0 : Int)).1.length : Nat) : Int) = 65536 by show ((sealL l).length : Int) = _; omega), if_pos rfl, open_sealed l (by omega), if_pos rfl, if_pos (show (((l, (0 : Int)).1.length : Nat) : Int) = 65532 by show (l.length : Int) = _; omega)]
  rfl
theorem known_loop (d : Nat) : ∀ (k i : Nat), i + d = 256 → 40000 + d < k → gimballaw02_SumKnown.l0 (k + 1) (i : Int) = some true := by
  induction d with
  | zero =>
    intro k i hd hk
    obtain ⟨k, rfl⟩ : ∃ m, k = m + 1 := ⟨k - 1, by omega⟩
    obtain rfl : i = 256 := by omega
    exact known_end k (by omega)
  | succ d ih =>
    intro k i hd hk
    obtain ⟨k, rfl⟩ : ∃ m, k = m + 1 := ⟨k - 1, by omega⟩
    have hi : 0 ≤ (i : Int) % 256 ∧ (i : Int) % 256 < 256 := by omega
    have b1 : CrcMath.Bytes [(i : Int) % 256] := fun c hc => by
      rw [List.mem_singleton] at hc
      rw [hc]; exact hi
    have b4 : CrcMath.Bytes [0, (i : Int) % 256, 255, (i : Int) % 256] := fun c hc => by
      simp only [List.mem_cons, List.not_mem_nil, or_false] at hc
      rcases hc with h | h | h | h <;> rw [h]
      · omega
      · exact hi
      · omega
      · exact hi
    rw [gimballaw02_SumKnown.l0, if_pos (by omega), bind_of (tells_spec _ b1 (by simp) k (by omega)), if_pos rfl, bind_of (tells_spec _ b4 (by simp) k (by omega)), if_pos rfl, wrap64_in (by omega) (by omega)]
    exact ih k (i + 1) (by omega) (by omega)
theorem SumKnown : gimballaw02_SumKnown.Pure := ⟨40300 + 1, by
  unfold gimballaw02_SumKnown.f
  exact known_loop 256 40300 0 (by omega) (by omega)⟩

end Go.Proofs.Ytijkbnfiphhohaa.Pure
