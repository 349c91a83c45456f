/- Contracts of item.within, quantity, has, small, number, text. -/
import Derived.Test.YtmeblifbkhpdnaaDoorGa
import Derived.Test.YtmeblifbkhpdnaaDoorShf
import Derived.Maps.OwnOps
import Derived.Maps.OwnSet
namespace Go.Proofs.YtmeblifbkhpdnaaDoor.K
set_option linter.unusedVariables false
set_option linter.unusedSimpArgs false
open Go.RowKit Go.Proofs.YtmeblifbkhpdnaaDoorW.PrintWords Go.Proofs.YtmeblifbkhpdnaaDoorW.PrintLast Go.Proofs.YtmeblifbkhpdnaaDoorW.PrintMore
/-! ### what kinds have -/
def iTab : List Int := [0, 5, 13, 22, 2, 2, 2, 4, 1, 2]
/-- The table of item's kinds lies in its block. -/
def GItem (w : World) : Prop := ∀ j : Nat, j < 10 → w.cell? ⟨1, j, none⟩ = some (.int .i64 (rd iTab (j : Int)))
theorem cell_blk {w : World} {p : Addr} {v : Value} (h : w.cell? p = some v) : p.block < w.heap.size := by
  rcases Nat.lt_or_ge p.block w.heap.size with h1 | h1
  · exact h1
  · simp [World.cell?, Array.getElem?_eq_none h1] at h
theorem GItem.lt {w : World} (h : GItem w) : 1 < w.heap.size := cell_blk (h 0 (by omega))
theorem GItem.keep {w w' : World} {n : Nat} (h : GItem w) (hb : Below n w w') (hn : 1 < n) : GItem w' := fun j hj => (hb.cell (p := ⟨1, j, none⟩) hn).trans (h j hj)
theorem GItem.below {w w' : World} (h : GItem w) (hb : Below w.heap.size w w') : GItem w' := h.keep hb h.lt
def iHas (k what : Int) : Bool := decide (0 ≤ k) && decide (k < 10) && (bits .and .i64 (rd iTab k) what != 0)
def within (n a b : Int) : Bool := decide (a ≤ n) && decide (n ≤ b)
def qty (n : Int) : Bool := within n 1 2147483647
set_option maxHeartbeats 800000 in
theorem item_within (w : World) (n a b : Int) :
    Calls Tryd.prog 97 #[.int .i64 n, .int .i64 a, .int .i64 b] w fun en w' => en = .returned (.bool (within n a b)) ∧ w = w' := by
  unfold within
  go_enter Tryd.func97, Tryd.ntmps97
  by_cases h1 : a ≤ n
  · have hd1 : decide (a ≤ n) = true := by simpa using h1
    go_wp2_with fail
    go_ret
    exact ⟨by simp [hd1], rfl⟩
  · have hd1 : decide (a ≤ n) = false := by simpa using h1
    go_wp2_with fail
    go_ret
    exact ⟨rfl, rfl⟩
set_option maxHeartbeats 800000 in
theorem item_quantity (w : World) (n : Int) :
    Calls Tryd.prog 96 #[.int .i64 n] w fun en w' => en = .returned (.bool (qty n)) ∧ w = w' := by
  go_enter Tryd.func96, Tryd.ntmps96
  go_wp2_with fail
  refine (item_within w n 1 2147483647).mono ?_
  rintro en w1 ⟨rfl, rfl⟩
  go_wp2_with fail
  go_ret
  exact ⟨rfl, rfl⟩
set_option maxHeartbeats 800000 in
theorem item_has (w : World) (k what : Int) (hG : GItem w) :
    Calls Tryd.prog 90 #[.int .i64 k, .int .i64 what] w fun en w' => en = .returned (.bool (iHas k what)) ∧ w = w' := by
  have HG := Aside0.mk hG
  clear hG
  unfold iHas
  go_enter Tryd.func90, Tryd.ntmps90
  by_cases h1 : 0 ≤ k
  · have hd1 : decide (0 ≤ k) = true := by simpa using h1
    by_cases h2 : k < 10
    · have hd2 : decide (k < 10) = true := by simpa using h2
      obtain ⟨j, rfl⟩ := Int.eq_ofNat_of_zero_le h1
      have hc := HG.out j (by omega)
      go_wp2_with fail
      go_ret
      exact ⟨by simp [hd2], rfl⟩
    · have hd2 : decide (k < 10) = false := by simpa using h2
      go_wp2_with fail
      go_ret
      exact ⟨by simp [hd2], rfl⟩
  · have hd1 : decide (0 ≤ k) = false := by simpa using h1
    go_wp2_with fail
    go_ret
    exact ⟨rfl, rfl⟩
/-! ### small -/
def small (u : Int) : Int := if 9007199254740991 < u then -1 else u
set_option maxHeartbeats 800000 in
theorem item_small (w : World) (u : Int) (h0 : 0 ≤ u) :
    Calls Tryd.prog 102 #[.int .u64 u] w fun en w' => en = .returned (.int .i64 (small u)) ∧ w = w' := by
  go_enter Tryd.func102, Tryd.ntmps102
  by_cases h : 9007199254740991 < u
  · have hd : decide (9007199254740991 < u) = true := by simpa using h
    go_wp2_with fail
    go_ret
    exact ⟨by unfold small; rw [if_pos h]; rfl, rfl⟩
  · have hd : decide (9007199254740991 < u) = false := by simpa using h
    have hw := wrap64_in (n := u) (by omega) (by omega)
    go_wp2_with fail
    go_ret
    exact ⟨by unfold small; rw [if_neg (by omega)]; rfl, rfl⟩
end Go.Proofs.YtmeblifbkhpdnaaDoor.K
/- Contracts of bits.Varint, Int, Text, Put (what they write). Condition: the rows' lengths are under 2^47. -/
namespace Go.Proofs.YtmeblifbkhpdnaaDoor.K
set_option linter.unusedVariables false
set_option linter.unusedSimpArgs false
open Go.RowKit Go.Proofs.YtmeblifbkhpdnaaDoorW.PrintWords Go.Proofs.YtmeblifbkhpdnaaDoorW.PrintLast Go.Proofs.YtmeblifbkhpdnaaDoorW.PrintMore
/-! ### Varint -/
/-- A varint's bytes. -/
def vEnc (u : Nat) : List Int := if u < 128 then [(u : Int)] else ((u % 128 + 128 : Nat) : Int) :: vEnc (u / 128)
termination_by u
theorem vEnc_lo (u : Nat) (h : u < 128) : vEnc u = [(u : Int)] := by rw [vEnc, if_pos h]
theorem vEnc_hi (u : Nat) (h : ¬ u < 128) : vEnc u = ((u % 128 + 128 : Nat) : Int) :: vEnc (u / 128) := by rw [vEnc, if_neg h]
set_option maxRecDepth 100000 in
theorem or128 : ∀ x : Fin 256, bits .or .u8 (x.val : Int) 128 = ((x.val % 128 + 128 : Nat) : Int) := by decide
theorem or128' (u : Nat) : bits .or .u8 ((u : Int) % 256) 128 = ((u % 128 + 128 : Nat) : Int) := by
  have h := or128 ⟨u % 256, Nat.mod_lt _ (by omega)⟩
  simp only at h
  rw [show ((u : Int) % 256) = ((u % 256 : Nat) : Int) by omega, h]
  omega
theorem vr_j (m j u : Nat) (h : j = 0 ∨ 1 ≤ m) (h1 : m * 128 ^ j ≤ u) (h2 : u < 18446744073709551616) : j ≤ 9 := by
  rcases h with h | h
  · omega
  rcases Nat.lt_or_ge 9 j with hj | hj
  · have e1 : 128 ^ 10 ≤ 128 ^ j := Nat.pow_le_pow_right (by omega) hj
    have e2 : 128 ^ j ≤ m * 128 ^ j := Nat.le_mul_of_pos_left _ h
    have e3 : (128 : Nat) ^ 10 = 1180591620717411303424 := by decide
    omega
  · exact hj
theorem vr_next (m j u : Nat) (hm : ¬ m < 128) (h1 : m * 128 ^ j ≤ u) : m / 128 * 128 ^ (j + 1) ≤ u := by
  have e : m / 128 * 128 ^ (j + 1) = (m / 128 * 128) * 128 ^ j := by rw [Nat.pow_succ, Nat.mul_comm (128 ^ j) 128, Nat.mul_assoc]
  rw [e]
  exact Nat.le_trans (Nat.mul_le_mul_right _ (Nat.div_mul_le_self m 128)) h1
theorem meas_div (m : Nat) (h : ¬ m < 128) : (intOf (.int .u64 ((m : Int) / 128))).toNat < (intOf (.int .u64 (m : Int))).toNat := by
  simp only [intOf]
  omega
theorem vr_row (m : Nat) (ys zs : List Int) (h : ¬ m < 128) (he : ys ++ vEnc m = zs) : ys ++ [(m : Int) % 128 + 128] ++ vEnc (m / 128) = zs := by
  rw [← he, vEnc_hi m h, List.append_assoc]
  rfl
set_option maxRecDepth 20000 in
set_option maxHeartbeats 1600000 in
theorem bits_Varint (w : World) (A : Option Addr) (c : Nat) (l : List Int) (u : Nat) (hC : Kd.C (Kd.int .u8) w A l.length l) (hc : l.length ≤ c) (hl : l.length + 10 < 140737488355328) (hu : u < 18446744073709551616) :
    Calls Tryd.prog 34 #[.slice A l.length c, .int .u64 (u : Int)] w fun en w' => ∃ v, en = .returned v ∧ Kd.R (Kd.int .u8) 5 w' w.heap.size (fun _ => True) v (l ++ vEnc u) ∧ Below w.heap.size w w' := by
  have HC := Aside0.mk hC
  have HCC := Aside0.mk hc
  have HL := Aside0.mk hl
  have HF : Aside0 (clone.f l = some l) := ⟨by unfold clone.f; rw [if_pos (by omega)]⟩
  have HU := Aside0.mk hu
  clear hC hc hl hu
  go_enter Tryd.func34, Tryd.ntmps34
  go_wp2_with fail
  refine (clone.calls A c l l _ HC.out HCC.out HF.out).mono ?_
  rintro en w1 ⟨v, rfl, ho, hbb⟩
  have HO := Aside0.mk ho
  have HB := Aside0.mk hbb
  clear ho hbb
  go_wp2_with fail
  go_loopw [1, 5] (fun x v wr => ∃ (m j : Nat) (ys : List Int), x = .int .u64 (m : Int) ∧ Aside0 (m * 128 ^ j ≤ u ∧ ys.length = l.length + j ∧ (j = 0 ∨ 1 ≤ m)) ∧ Aside0 (ys ++ vEnc m = l ++ vEnc u) ∧ Aside0 (Kd.R (Kd.int .u8) 5 wr w.heap.size (fun _ => True) v ys) ∧ Aside0 (Below w.heap.size w wr)) (fun x _ _ => (intOf x).toNat)
  case atStart => exact ⟨u, 0, l, rfl, ⟨by rw [Nat.pow_zero]; omega, by omega, Or.inl rfl⟩, ⟨rfl⟩, HO, HB⟩
  case round =>
    obtain ⟨m, j, ys, rfl, HJ, HE, HO2, HB2⟩ := hrel
    by_cases hm : m < 128
    · have hb : decide ((128 : Int) ≤ (m : Int)) = false := by simp; omega
      have hlen : (ys.length + 1) * 1 ≤ 140737488355328 := by
        have h1 := vr_j m j u HJ.out.2.2 HJ.out.1 HU.out
        have h2 := HJ.out.2.1
        have h3 := HL.out
        omega
      have HLN := Aside0.mk hlen
      clear hlen
      go_wp2_with (first | ((with_reducible refine gate_builtin (b := .append) (xs := #[.tmp 18, .tmp 21]) rfl ?_); at_builtin; refine Kd.R_append (Kd.int .u8) (w0 := w) w.heap.size rfl (.tmp 18) (.tmp 21) 22 5 (.int .u8 0) 1 rfl Tryd.underlying22 infou8 rfl (by decide) (by omega) _ (ys) ((m : Int)) [.int .u8 ((m : Int))] (fun _ => True) (fun _ => False) rfl rfl ?aP (fun _ hk => hk.elim) ?aF ?aO ?aB ?aS ?aL ?_; (case aP => exact rfl); (case aB => exact (by repeat (first | (with_reducible first | exact HB2.out | apply below_alloc | apply pw_below_drewN | apply below_drew1) | exact HB2.out))); (case aF => exact (fun _ _ => trivial)); (case aO => exact (by (with_reducible repeat (first | apply Kd.R_alloc | apply Kd.R_drewN | apply Kd.R_drew)); exact HO2.out)); (case aS => exact (below_size (by repeat (first | (with_reducible first | exact HB2.out | apply below_alloc | apply pw_below_drewN | apply below_drew1) | exact HB2.out)))); (case aL => exact HLN.out); intro v7 w7 hv hw hg7 hat7; clear hg7 hat7))
      go_ret
      have he := HE.out
      rw [vEnc_lo m hm] at he
      rw [he] at hv
      exact ⟨_, rfl, hv, hw⟩
    · have hb : decide ((128 : Int) ≤ (m : Int)) = true := by simp; omega
      have hor := or128' m
      have hlen : (ys.length + 1) * 1 ≤ 140737488355328 := by
        have h1 := vr_j m j u HJ.out.2.2 HJ.out.1 HU.out
        have h2 := HJ.out.2.1
        have h3 := HL.out
        omega
      have HLN := Aside0.mk hlen
      have HM := Aside0.mk hm
      clear hlen
      go_wp2_with (first | ((with_reducible refine gate_builtin (b := .append) (xs := #[.tmp 12, .tmp 16]) rfl ?_); at_builtin; refine Kd.R_append (Kd.int .u8) (w0 := w) w.heap.size rfl (.tmp 12) (.tmp 16) 22 5 (.int .u8 0) 1 rfl Tryd.underlying22 infou8 rfl (by decide) (by omega) _ (ys) ((m : Int) % 128 + 128) [.int .u8 ((m : Int) % 128 + 128)] (fun _ => True) (fun _ => False) rfl rfl ?aP (fun _ hk => hk.elim) ?aF ?aO ?aB ?aS ?aL ?_; (case aP => exact rfl); (case aB => exact (by repeat (first | (with_reducible first | exact HB2.out | apply below_alloc | apply pw_below_drewN | apply below_drew1) | exact HB2.out))); (case aF => exact (fun _ _ => trivial)); (case aO => exact (by (with_reducible repeat (first | apply Kd.R_alloc | apply Kd.R_drewN | apply Kd.R_drew)); exact HO2.out)); (case aS => exact (below_size (by repeat (first | (with_reducible first | exact HB2.out | apply below_alloc | apply pw_below_drewN | apply below_drew1) | exact HB2.out)))); (case aL => exact HLN.out); intro v7 w7 hv hw hg7 hat7; clear hg7 hat7))
      have HV := Aside0.mk hv
      have HW := Aside0.mk hw
      clear hv hw
      go_roundw
      case rel => exact ⟨m / 128, j + 1, ys ++ [(m : Int) % 128 + 128], rfl, ⟨vr_next m j u HM.out HJ.out.1, by rw [List.length_append]; have h2 := HJ.out.2.1; simp only [List.length_cons, List.length_nil]; omega, Or.inr (by have h := HM.out; omega)⟩, ⟨vr_row m ys _ HM.out HE.out⟩, HV, HW⟩
      case measure => exact meas_div m HM.out
/-! ### Text -/
theorem wrap_u64_nat (n : Nat) (h : n < 18446744073709551616) : IntKind.u64.wrap (n : Int) = (n : Int) := wrap_u64 (n : Int) (by omega) (by omega)
theorem vEnc_len : ∀ (k u : Nat), u < 128 ^ (k + 1) → (vEnc u).length ≤ k + 1
  | 0, u, h => by rw [vEnc_lo u (by simpa using h)]; simp
  | k + 1, u, h => by
    by_cases hu : u < 128
    · rw [vEnc_lo u hu]; simp
    · rw [vEnc_hi u hu, List.length_cons]
      have := vEnc_len k (u / 128) (by rw [Nat.div_lt_iff_lt_mul (by omega)]; rw [Nat.pow_succ] at h; omega)
      omega
theorem vEnc_ten (u : Nat) (h : u < 18446744073709551616) : (vEnc u).length ≤ 10 := vEnc_len 9 u (by
  have : (128 : Nat) ^ (9 + 1) = 1180591620717411303424 := by decide
  omega)
set_option maxRecDepth 20000 in
set_option maxHeartbeats 1600000 in
theorem bits_Text (w : World) (A : Option Addr) (c : Nat) (l : List Int) (A2 : Option Addr) (c2 : Nat) (s : List Int) (hC : Kd.C (Kd.int .u8) w A l.length l) (hc : l.length ≤ c) (hC2 : Kd.C (Kd.int .u8) w A2 s.length s) (hc2 : s.length ≤ c2) (hl : l.length + s.length + 10 < 140737488355328) :
    Calls Tryd.prog 37 #[.slice A l.length c, .slice A2 s.length c2] w fun en w' => ∃ v, en = .returned v ∧ Kd.R (Kd.int .u8) 5 w' w.heap.size (fun _ => True) v (l ++ (vEnc s.length ++ s)) ∧ Below w.heap.size w w' := by
  have HC := Aside0.mk hC
  have HCC := Aside0.mk hc
  have HC2 := Aside0.mk hC2
  have HL := Aside0.mk hl
  have hwr := wrap_u64_nat s.length (by omega)
  clear hC hc hC2 hl hc2
  go_enter Tryd.func37, Tryd.ntmps37
  go_wp2_with fail
  refine (bits_Varint _ A c l s.length HC.out HCC.out (by have := HL.out; omega) (by have := HL.out; omega)).mono ?_
  rintro en w1 ⟨v, rfl, ho, hbb⟩
  have HO := Aside0.mk ho
  have HB := Aside0.mk hbb
  have HR := Aside0.mk (Kd.C_below HC2.out hbb)
  have hlen : ((l ++ vEnc s.length).length + s.length) * 1 ≤ 140737488355328 := by
    have h1 := vEnc_ten s.length (by have := HL.out; omega)
    have h2 := HL.out
    rw [List.length_append]
    omega
  have HLN := Aside0.mk hlen
  clear ho hbb hlen
  go_wp2_with (first | ((with_reducible refine gate_builtin (b := .append) (xs := #[.tmp 9, .tmp 10]) rfl ?_); at_builtin; refine Kd.R_append_rows (Kd.int .u8) (w0 := w) w.heap.size rfl (.tmp 9) (.tmp 10) 22 5 (.int .u8 0) 1 rfl Tryd.underlying22 infou8 rfl (by decide) (by omega) (v) (l ++ vEnc s.length) (s) _ _ _ (fun _ => True) (fun _ => False) rfl rfl ?aO ?aR (fun _ _ h => h) (fun _ h => h.elim) ?aF ?aB ?aS ?aL ?_; (case aR => repeat (first | exact HR.out | (with_reducible refine Kd.C_alloc ?_ _) | (with_reducible refine Kd.C_drewN ?_ _) | (with_reducible refine Kd.C_drew ?_))); (case aB => exact (by repeat (first | (with_reducible first | exact HB.out | apply below_alloc | apply pw_below_drewN | apply below_drew1) | exact HB.out))); (case aF => exact (fun _ _ => trivial)); (case aO => exact (by (with_reducible repeat (first | apply Kd.R_alloc | apply Kd.R_drewN | apply Kd.R_drew)); exact HO.out)); (case aS => exact (below_size (by repeat (first | (with_reducible first | exact HB.out | apply below_alloc | apply pw_below_drewN | apply below_drew1) | exact HB.out)))); (case aL => exact HLN.out); intro v7 w7 hv hw hg7 hat7; clear hg7 hat7))
  go_ret
  rw [List.append_assoc] at hv
  exact ⟨_, rfl, hv, hw⟩
set_option maxRecDepth 20000 in
set_option maxHeartbeats 1600000 in
theorem item_number (w : World) (A : Option Addr) (c : Nat) (l : List Int) (u : Nat) (hC : Kd.C (Kd.int .u8) w A l.length l) (hc : l.length ≤ c) (hl : l.length + 10 < 140737488355328) (hu : u < 9223372036854775808) :
    Calls Tryd.prog 92 #[.slice A l.length c, .int .i64 (u : Int)] w fun en w' => ∃ v, en = .returned v ∧ Kd.R (Kd.int .u8) 5 w' w.heap.size (fun _ => True) v (l ++ vEnc u) ∧ Below w.heap.size w w' := by
  have HH := Aside0.mk (bits_Varint w A c l u hC hc hl (by omega))
  have hwr := wrap_u64_nat u (by omega)
  clear hC hc hl hu
  go_enter Tryd.func92, Tryd.ntmps92
  go_wp2_with fail
  refine HH.out.mono ?_
  rintro en w1 ⟨v, rfl, ho, hbb⟩
  have HO := Aside0.mk ho
  have HB := Aside0.mk hbb
  clear ho hbb
  go_wp2_with fail
  go_ret
  exact ⟨_, rfl, HO.out, HB.out⟩
end Go.Proofs.YtmeblifbkhpdnaaDoor.K
/- Contracts of item.text, bits.Zig, Int. -/
namespace Go.Proofs.YtmeblifbkhpdnaaDoor.K
set_option linter.unusedVariables false
set_option linter.unusedSimpArgs false
open Go.RowKit Go.Proofs.YtmeblifbkhpdnaaDoorW.PrintWords Go.Proofs.YtmeblifbkhpdnaaDoorW.PrintLast Go.Proofs.YtmeblifbkhpdnaaDoorW.PrintMore
/-- A text's bytes. -/
def sB (s : ByteArray) : List Int := s.data.toList.map fun b => (b.toNat : Int)
theorem sB_len (s : ByteArray) : (sB s).length = s.size := by
  unfold sB
  rw [List.length_map, Array.length_toList]
  rfl
theorem sB_bytes (s : ByteArray) : CrcMath.Bytes (sB s) := by
  intro c hc
  obtain ⟨b, _, rfl⟩ := List.mem_map.1 hc
  have := b.toNat_lt
  omega
theorem sB_C (w : World) (s : ByteArray) (hs : s.size ≤ 9223372036854775807) : Kd.C (Kd.int .u8) (Lib.bytesWorld w 5 s) (some ⟨w.heap.size, 0, none⟩) (sB s).length (sB s) := by
  refine Kd.C_of_reads (d := 0) (enc := fun x => Value.int .u8 x) (h1 := fun _ => rfl) ⟨rfl, by rw [sB_len]; exact hs, fun _ => ⟨_, rfl, fun j hj => ?_⟩⟩
  rw [sB_len] at hj
  have h := Lib.bytesWorld_cell w 5 s j hj
  rw [add_plain]
  refine h.trans ?_
  have hj3 : j < s.data.size := hj
  rw [show s.data.toList.getD j 0 = s.data[j] by simp [List.getD_eq_getElem?_getD, Array.getElem?_eq_getElem hj3]]
  simp [sB, List.getD_eq_getElem?_getD, Array.getElem?_eq_getElem hj3]
set_option maxRecDepth 20000 in
set_option maxHeartbeats 1600000 in
theorem item_text (w : World) (A : Option Addr) (c : Nat) (l : List Int) (s : ByteArray) (hC : Kd.C (Kd.int .u8) w A l.length l) (hc : l.length ≤ c) (hl : l.length + s.size + 10 < 140737488355328) :
    Calls Tryd.prog 91 #[.slice A l.length c, .string s] w fun en w' => ∃ v, en = .returned v ∧ Kd.R (Kd.int .u8) 5 w' w.heap.size (fun _ => True) v (l ++ (vEnc s.size ++ sB s)) ∧ Below w.heap.size w w' := by
  have hcv := Lib.run_convert_string_bytes (P := Tryd.prog) w 9 22 5 s Tryd.underlying9 Tryd.underlying22 Tryd.underlying5
  have HB := Aside0.mk (Joins.below_bytesWorld w.heap.size w 5 s (Nat.le_refl _))
  have HH := Aside0.mk (bits_Text (Lib.bytesWorld w 5 s) A c l (some ⟨w.heap.size, 0, none⟩) (grownCap w s.size 0 5) (sB s) (Kd.C_below hC HB.out) hc (sB_C w s (by omega)) (by rw [sB_len]; exact grownCap_ge _ _ _ _) (by rw [sB_len]; exact hl))
  rw [sB_len] at HH
  clear hC hc hl
  go_enter Tryd.func91, Tryd.ntmps91
  go_wp2_with fail
  refine HH.out.mono ?_
  rintro en w1 ⟨v, rfl, ho, hbb⟩
  have HO := Aside0.mk (Kd.R_lower ho HB.out.size)
  have HB2 := Aside0.mk (HB.out.trans (hbb.mono HB.out.size))
  clear ho hbb
  go_wp2_with fail
  go_ret
  exact ⟨_, rfl, HO.out, HB2.out⟩
def zig (n : Int) : Nat := if n < 0 then (2 * (-(n + 1)) + 1).toNat else (2 * n).toNat
theorem xor0_u64 (x : Int) (h0 : 0 ≤ x) (h1 : x < 18446744073709551616) : Go.bits .xor .u64 x 0 = x := by
  obtain ⟨x, rfl⟩ := Int.eq_ofNat_of_zero_le h0
  have hx : x < 2 ^ 64 := by omega
  show IntKind.u64.wrap (((BitVec.ofInt 64 (x : Int) ^^^ BitVec.ofInt 64 0).toNat : Nat) : Int) = _
  have e0 : BitVec.ofInt 64 0 = 0#64 := by decide
  rw [e0, BitVec.xor_zero, BitVec.ofInt_natCast, BitVec.toNat_ofNat, Nat.mod_eq_of_lt hx, wrap_u64 _ (by omega) (by omega)]
theorem xorm_u64 (x : Int) (h0 : 0 ≤ x) (h1 : x < 18446744073709551616) : Go.bits .xor .u64 x 18446744073709551615 = 18446744073709551615 - x := by
  obtain ⟨x, rfl⟩ := Int.eq_ofNat_of_zero_le h0
  have hx : x < 2 ^ 64 := by omega
  show IntKind.u64.wrap (((BitVec.ofInt 64 (x : Int) ^^^ BitVec.ofInt 64 18446744073709551615).toNat : Nat) : Int) = _
  have e0 : BitVec.ofInt 64 18446744073709551615 = BitVec.allOnes 64 := by decide
  rw [e0, BitVec.xor_allOnes, BitVec.ofInt_natCast, BitVec.toNat_not, BitVec.toNat_ofNat, Nat.mod_eq_of_lt hx, wrap_u64 _ (by omega) (by omega)]
  omega
theorem wrap_u64_def (n : Int) : IntKind.u64.wrap n = n % 18446744073709551616 := by
  rw [IntKind.wrap_u64]
theorem zig_law (n : Int) (h0 : -9223372036854775808 ≤ n) (h1 : n < 9223372036854775808) : Go.bits .xor .u64 (IntKind.u64.wrap (IntKind.u64.wrap n * 2)) (IntKind.u64.wrap (n / 9223372036854775808)) = (zig n : Int) := by
  unfold zig
  by_cases h : n < 0
  · rw [if_pos h]
    have e1 : IntKind.u64.wrap n = n + 18446744073709551616 := by rw [wrap_u64_def]; omega
    have e2 : IntKind.u64.wrap ((n + 18446744073709551616) * 2) = 2 * n + 18446744073709551616 := by rw [wrap_u64_def]; omega
    have e3 : n / 9223372036854775808 = -1 := by omega
    have e4 : IntKind.u64.wrap (-1) = 18446744073709551615 := by rw [wrap_u64_def]; decide
    rw [e1, e2, e3, e4, xorm_u64 _ (by omega) (by omega)]
    omega
  · rw [if_neg h]
    have e1 : IntKind.u64.wrap n = n := wrap_u64 n (by omega) (by omega)
    have e2 : IntKind.u64.wrap (n * 2) = n * 2 := wrap_u64 _ (by omega) (by omega)
    have e3 : n / 9223372036854775808 = 0 := by omega
    have e4 : IntKind.u64.wrap 0 = 0 := wrap_u64 _ (by omega) (by omega)
    rw [e1, e2, e3, e4, xor0_u64 _ (by omega) (by omega)]
    omega
set_option maxRecDepth 20000 in
set_option maxHeartbeats 1600000 in
theorem bits_Zig (w : World) (n : Int) (h0 : -9223372036854775808 ≤ n) (h1 : n < 9223372036854775808) :
    Calls Tryd.prog 109 #[.int .i64 n] w fun en w' => en = .returned (.int .u64 (zig n : Int)) ∧ w = w' := by
  have HH := Aside0.mk (zig_law n h0 h1)
  clear h0 h1
  go_enter Tryd.func109, Tryd.ntmps109
  go_wp2_with fail
  go_ret
  exact ⟨by rw [← HH.out]; rfl, rfl⟩
theorem zig_lt (n : Int) (h0 : -9223372036854775808 ≤ n) (h1 : n < 9223372036854775808) : zig n < 18446744073709551616 := by
  unfold zig
  split <;> omega
set_option maxRecDepth 20000 in
set_option maxHeartbeats 1600000 in
theorem bits_Int (w : World) (A : Option Addr) (c : Nat) (l : List Int) (n : Int) (hC : Kd.C (Kd.int .u8) w A l.length l) (hc : l.length ≤ c) (hl : l.length + 10 < 140737488355328) (h0 : -9223372036854775808 ≤ n) (h1 : n < 9223372036854775808) :
    Calls Tryd.prog 93 #[.slice A l.length c, .int .i64 n] w fun en w' => ∃ v, en = .returned v ∧ Kd.R (Kd.int .u8) 5 w' w.heap.size (fun _ => True) v (l ++ vEnc (zig n)) ∧ Below w.heap.size w w' := by
  have HH := Aside0.mk (bits_Varint w A c l (zig n) hC hc hl (zig_lt n h0 h1))
  have HZ := Aside0.mk (bits_Zig w n h0 h1)
  clear hC hc hl h0 h1
  go_enter Tryd.func93, Tryd.ntmps93
  go_wp2_with fail
  refine HZ.out.mono ?_
  rintro en w1 ⟨rfl, rfl⟩
  go_wp2_with fail
  refine HH.out.mono ?_
  rintro en w1 ⟨v, rfl, ho, hbb⟩
  have HO := Aside0.mk ho
  have HB := Aside0.mk hbb
  clear ho hbb
  go_wp2_with fail
  go_ret
  exact ⟨_, rfl, HO.out, HB.out⟩
end Go.Proofs.YtmeblifbkhpdnaaDoor.K
/- Contract of bits.Put. -/
namespace Go.Proofs.YtmeblifbkhpdnaaDoor.K
set_option linter.unusedVariables false
set_option linter.unusedSimpArgs false
open Go.RowKit Go.Proofs.YtmeblifbkhpdnaaDoorW.PrintWords Go.Proofs.YtmeblifbkhpdnaaDoorW.PrintLast Go.Proofs.YtmeblifbkhpdnaaDoorW.PrintMore
/-- The bytes of a number, the greatest first. -/
def beB (K n : Nat) : List Int := (List.range K).map fun i => ((n / 256 ^ (K - 1 - i) % 256 : Nat) : Int)
theorem put_test (K n : Nat) (hK : K = 1 ∨ K = 2 ∨ K = 4) (hn : n < 256 ^ K) : ((n : Int) / 2 ^ min (8 * K - 1) 64 / 2 != 0) = false := by
  have h : (n : Int) / 2 ^ min (8 * K - 1) 64 / 2 = 0 := by
    rcases hK with rfl | rfl | rfl
    · have : n < 256 := by simpa using hn
      show (n : Int) / 128 / 2 = 0
      omega
    · have : n < 65536 := by simpa using hn
      show (n : Int) / 32768 / 2 = 0
      omega
    · have : n < 4294967296 := by simpa using hn
      show (n : Int) / 2147483648 / 2 = 0
      omega
  rw [h]
  rfl
theorem beB_lo (K n k : Nat) (h : k < K) : (List.range (k + 1)).map (fun i => ((n / 256 ^ (K - 1 - i) % 256 : Nat) : Int)) = (List.range k).map (fun i => ((n / 256 ^ (K - 1 - i) % 256 : Nat) : Int)) ++ [((n / 256 ^ (K - 1 - k) % 256 : Nat) : Int)] := by
  rw [List.range_succ, List.map_append]
  rfl
theorem put_shift (K n k : Nat) (hK : K = 1 ∨ K = 2 ∨ K = 4) (h : k < K) : (n : Int) / 2 ^ min (8 * K - 8 - 8 * k) 64 % 256 = ((n / 256 ^ (K - 1 - k) % 256 : Nat) : Int) := by
  have e : (2 : Int) ^ min (8 * K - 8 - 8 * k) 64 = ((256 ^ (K - 1 - k) : Nat) : Int) := by
    have h1 : min (8 * K - 8 - 8 * k) 64 = 8 * (K - 1 - k) := by omega
    rw [h1, Int.pow_mul]
    simp
  rw [e]
  omega
set_option maxRecDepth 20000 in
set_option maxHeartbeats 1600000 in
theorem bits_Put (K : Nat) (hK : K = 1 ∨ K = 2 ∨ K = 4) (w : World) (A : Option Addr) (c : Nat) (l : List Int) (n : Nat) (hC : Kd.C (Kd.int .u8) w A l.length l) (hc : l.length ≤ c) (hl : l.length + 10 < 140737488355328) (hn : n < 256 ^ K) (s : Int) (hs : s = ((8 * K : Nat) : Int)) :
    Calls Tryd.prog 38 #[.slice A l.length c, .int .i64 s, .int .u64 (n : Int)] w fun en w' => ∃ v, en = .returned (.tuple #[v, .int .i64 0]) ∧ Kd.R (Kd.int .u8) 5 w' w.heap.size (fun _ => True) v (l ++ beB K n) ∧ Below w.heap.size w w' := by
  have HC := Aside0.mk hC
  have HCC := Aside0.mk hc
  have HL := Aside0.mk hl
  have HF : Aside0 (clone.f l = some l) := ⟨by unfold clone.f; rw [if_pos (by omega)]⟩
  have HN := Aside0.mk hn
  have HK := Aside0.mk hK
  have HS := Aside0.mk hs
  have hdv : wrap64 (s.tdiv 8) = (K : Int) := by
    rw [hs, Int.tdiv_eq_ediv_of_nonneg (by omega), wrap64_in (by omega) (by omega)]
    omega
  have hs1 : wrap64 (s - 1) = ((8 * K - 1 : Nat) : Int) := by rw [hs, wrap64_in (by omega) (by omega)]; omega
  have hs8 : wrap64 (s - 8) = ((8 * K - 8 : Nat) : Int) := by rw [hs, wrap64_in (by omega) (by omega)]; omega
  have ht := put_test K n hK hn
  clear hC hc hl hs hn hK
  go_enter Tryd.func38, Tryd.ntmps38
  go_wp2_with fail
  rw [HS.out]
  refine (bits_sized K HK.out _).mono ?_
  rintro en w1 ⟨rfl, rfl⟩
  rw [← HS.out]
  go_wp2_with fail
  refine (clone.calls A c l l _ HC.out HCC.out HF.out).mono ?_
  rintro en w1 ⟨v, rfl, ho, hbb⟩
  have HO := Aside0.mk ho
  have HB := Aside0.mk hbb
  clear ho hbb ht
  go_wp2_with fail
  rw [hdv]
  go_loopw [8, 9, 25] (fun x y v wr => ∃ (k : Nat), v = .int .i64 (k : Int) ∧ k ≤ K ∧ Aside0 (Kd.R (Kd.int .u8) 5 wr w.heap.size (fun _ => True) x (l ++ (List.range k).map (fun i => ((n / 256 ^ (K - 1 - i) % 256 : Nat) : Int)))) ∧ Aside0 (Below w.heap.size w wr)) (fun _ _ v _ => K - (intOf v).toNat)
  case atStart => exact ⟨0, rfl, by omega, ⟨by simpa using HO.out⟩, HB⟩
  case round =>
    obtain ⟨k, rfl, hk, HO2, HB2⟩ := hrel
    by_cases hlt : k < K
    · have hb : decide ((k : Int) < (K : Int)) = true := by simp; omega
      have hw1 : wrap64 (8 * (k : Int)) = ((8 * k : Nat) : Int) := by have := HK.out; rw [wrap64_in (by omega) (by omega)]; omega
      have hw2 : wrap64 (((8 * K - 8 : Nat) : Int) - 8 * (k : Int)) = ((8 * K - 8 - 8 * k : Nat) : Int) := by have := HK.out; rw [wrap64_in (by omega) (by omega)]; omega
      have hsh := put_shift K n k HK.out hlt
      have HSN := Aside0.mk (beB_lo K n k hlt)
      have hwk := wrap_next K k hlt (by have := HK.out; unfold maxLen; omega)
      have HWK := Aside0.mk hwk
      have HLT := Aside0.mk hlt
      clear hwk
      have hlen : ((l ++ (List.range k).map (fun i => ((n / 256 ^ (K - 1 - i) % 256 : Nat) : Int))).length + 1) * 1 ≤ 140737488355328 := by
        have h1 := HL.out
        have h2 := HK.out
        rw [List.length_append, List.length_map, List.length_range]
        omega
      have HLN := Aside0.mk hlen
      clear hlen
      generalize hrow : (List.range k).map (fun i => ((n / 256 ^ (K - 1 - i) % 256 : Nat) : Int)) = row at *
      generalize hby : ((n / 256 ^ (K - 1 - k) % 256 : Nat) : Int) = by1 at *
      clear hrow hby
      go_wp2_with (first | ((with_reducible refine gate_builtin (b := .append) (xs := #[.tmp 28, .tmp 37]) rfl ?_); at_builtin; refine Kd.R_append (Kd.int .u8) (w0 := w) w.heap.size rfl (.tmp 28) (.tmp 37) 22 5 (.int .u8 0) 1 rfl Tryd.underlying22 infou8 rfl (by decide) (by omega) _ (l ++ row) (by1) [.int .u8 (by1)] (fun _ => True) (fun _ => False) rfl rfl ?aP (fun _ hk => hk.elim) ?aF ?aO ?aB ?aS ?aL ?_; (case aP => exact rfl); (case aB => exact (by repeat (first | (with_reducible first | exact HB2.out | apply below_alloc | apply pw_below_drewN | apply below_drew1) | exact HB2.out))); (case aF => exact (fun _ _ => trivial)); (case aO => exact (by (with_reducible repeat (first | apply Kd.R_alloc | apply Kd.R_drewN | apply Kd.R_drew)); exact HO2.out)); (case aS => exact (below_size (by repeat (first | (with_reducible first | exact HB2.out | apply below_alloc | apply pw_below_drewN | apply below_drew1) | exact HB2.out)))); (case aL => exact HLN.out); intro v7 w7 hv hw hg7 hat7; clear hg7 hat7))
      have HV := Aside0.mk hv
      have HW := Aside0.mk hw
      clear hv hw
      go_roundw
      case rel =>
        refine ⟨k + 1, by rw [HWK.out], by have := HLT.out; omega, ⟨?_⟩, HW⟩
        rw [HSN.out, ← List.append_assoc]
        exact HV.out
      case measure => exact meas_step K k HLT.out HWK.out
    · obtain rfl : k = K := by omega
      have hb : decide ((k : Int) < (k : Int)) = false := by simp
      go_wp2_with fail
      go_ret2
      exact ⟨_, rfl, HO2.out, HB2.out⟩
end Go.Proofs.YtmeblifbkhpdnaaDoor.K
/- Contracts of item.Name and its closure. -/
namespace Go.Proofs.YtmeblifbkhpdnaaDoor.K
set_option linter.unusedVariables false
set_option linter.unusedSimpArgs false
open Go.RowKit Go.Proofs.YtmeblifbkhpdnaaDoorW.PrintWords Go.Proofs.YtmeblifbkhpdnaaDoorW.PrintLast Go.Proofs.YtmeblifbkhpdnaaDoorW.PrintMore
/-- Is a rune none of a name's? -/
def badCh (c : Nat) : Bool := !((decide (97 ≤ c) && decide (c ≤ 122)) || (decide (48 ≤ c) && decide (c ≤ 57)))
def nameOk (s : ByteArray) : Bool := !(decide (s.toList = [])) && (decide (s.size ≤ 8) && !(decide (0 ≤ Lib.idxFunc badCh true s)))
set_option maxHeartbeats 800000 in
theorem item_Name_1 (W : World) (c : Nat) :
    Calls Tryd.prog 111 #[.int .i32 (c : Int)] W fun en w' => en = .returned (.bool (badCh c)) ∧ W = w' := by
  have hB : badCh c = !((decide (97 ≤ (c : Int)) && decide ((c : Int) ≤ 122)) || (decide (48 ≤ (c : Int)) && decide ((c : Int) ≤ 57))) := by
    unfold badCh
    rw [show decide (97 ≤ c) = decide (97 ≤ (c : Int)) by congr 1; simp; omega, show decide (c ≤ 122) = decide ((c : Int) ≤ 122) by congr 1; simp; omega, show decide (48 ≤ c) = decide (48 ≤ (c : Int)) by congr 1; simp; omega, show decide (c ≤ 57) = decide ((c : Int) ≤ 57) by congr 1; simp; omega]
  have HB := Aside0.mk hB
  clear hB
  generalize hz : (c : Int) = z at *
  clear hz
  go_enter Tryd.func111, Tryd.ntmps111
  cases h1 : decide (97 ≤ z) <;> cases h2 : decide (z ≤ 122) <;> cases h3 : decide (48 ≤ z) <;> cases h4 : decide (z ≤ 57) <;>
  · go_wp2_with fail
    go_ret
    exact ⟨by rw [HB.out]; simp [h1, h2, h3, h4], rfl⟩
theorem item_Name_pred (w : World) : PredAtRunes Tryd.prog 111 #[] badCh w := fun W x _ _ =>
  (item_Name_1 W x).mono fun _ _ h => ⟨h.1, 0, h.2.symm⟩
theorem item_Name_enter (args : Array Value) (w : World) : (callFunc 111 args).run Tryd.prog w = .ok (.enter 111 args) w := Go.Proofs.enters_of Tryd.func111 (by kernel_rfl) rfl args w
set_option maxHeartbeats 800000 in
theorem item_Name (w : World) (s : ByteArray) :
    Calls Tryd.prog 98 #[.string s] w fun en w' => en = .returned (.bool (nameOk s)) ∧ Below w.heap.size w w' := by
  have hc := Tryd.strings_ContainsFunc_runes 111 #[] item_Name_enter badCh s w (item_Name_pred w)
  unfold nameOk
  go_enter Tryd.func98, Tryd.ntmps98
  by_cases h1 : s.toList = []
  · go_wp2_with fail
    go_ret
    exact ⟨by simp [h1], Below.refl _ _⟩
  · by_cases h2 : (s.size : Int) ≤ 8
    · go_wp2_with fail
      refine hc.mono ?_
      rintro en w1 ⟨rfl, hb⟩
      go_wp2_with fail
      go_ret
      exact ⟨by have h2' : s.size ≤ 8 := by omega
                simp [h1, h2'], hb⟩
    · go_wp2_with fail
      go_ret
      exact ⟨by simp [h1]; omega, Below.refl _ _⟩
end Go.Proofs.YtmeblifbkhpdnaaDoor.K
/- Contract of item.lines. -/
namespace Go.Proofs.YtmeblifbkhpdnaaDoor.K
set_option linter.unusedVariables false
set_option linter.unusedSimpArgs false
open Go.RowKit Go.Proofs.YtmeblifbkhpdnaaDoorW.PrintWords Go.Proofs.YtmeblifbkhpdnaaDoorW.PrintLast Go.Proofs.YtmeblifbkhpdnaaDoorW.PrintMore
abbrev Line := S118
def kLine : Kd Line := k118
/-- Lines' names as a map's keys. -/
def keyL (s : ByteArray) : Lit := .string s.data.toList
/-- In block b lies a map: its keys are these names; it has as many as there are names just if none of them comes twice. -/
def Had (w : World) (b : Nat) (ns : List ByteArray) : Prop :=
  ∃ l : List (Lit × DataW Unit), w.ownsMap Tryd.prog 9 (plainElem Tryd.prog 3) b ns.length (.map l) ∧ (∀ s, (∃ d, (keyL s, d) ∈ l) ↔ s ∈ ns) ∧ l.length ≤ ns.length ∧ (l.length = ns.length ↔ ns.Nodup)
theorem Had.made (w : World) : Had (w.alloc (.map #[] 0)) w.heap.size [] :=
  ⟨[], World.ownsMap_made w _ _ _, by simp, by simp, by simp⟩
theorem Had.below {w w' : World} {b B : Nat} {ns : List ByteArray} (h : Had w b ns) (hb : Below B w w') (hB : b < B) : Had w' b ns := by
  obtain ⟨l, ⟨es, clock, h1, h2⟩, h3⟩ := h
  exact ⟨l, ⟨es, clock, (hb.block b hB).trans h1, h2⟩, h3⟩
theorem Had.len {w : World} {b : Nat} {ns : List ByteArray} (h : Had w b ns) : ∃ n : Nat, (Builtin.len_ #[128] 3 #[.map (some b)]).run Tryd.prog w = .ok (.int .i64 (n : Int)) w ∧ (n = ns.length ↔ ns.Nodup) := by
  obtain ⟨l, hown, _, h4, h5⟩ := h
  exact ⟨l.length, hown.len Tryd.underlying128 3, h5⟩
theorem Had.put {w1 : World} {b k : Nat} {ns : List ByteArray} {ll : List (Lit × DataW Unit)} (s : ByteArray) (d : DataW Unit) (hk : ns.length = k) (h : (∀ t, (∃ e, (keyL t, e) ∈ ChangeMaps.putKey (keyL s) d ll) ↔ t ∈ ns ++ [s]) ∧ (ChangeMaps.putKey (keyL s) d ll).length ≤ (ns ++ [s]).length ∧ ((ChangeMaps.putKey (keyL s) d ll).length = (ns ++ [s]).length ↔ (ns ++ [s]).Nodup))
    (ho : w1.ownsMap Tryd.prog 9 (plainElem Tryd.prog 3) b (k + 1) ((DataW.map ll).put (keyL s) d)) : Had w1 b (ns ++ [s]) := by
  rw [DataW.put_eq] at ho
  exact ⟨_, by rw [List.length_append, hk]; exact ho, h.1, h.2.1, h.2.2⟩
theorem isKey_str (s : ByteArray) : WideAt.IsKeyLit (keyL s) := trivial
theorem keyL_inj {s t : ByteArray} (h : keyL s = keyL t) : s = t := by
  unfold keyL at h
  injection h with h
  cases s; cases t
  simpa [Array.toList_inj] using h
theorem had_put {l : List (Lit × DataW Unit)} {ns : List ByteArray} (s : ByteArray) (d : DataW Unit) (h1 : ∀ s, (∃ d, (keyL s, d) ∈ l) ↔ s ∈ ns) (h2 : l.length ≤ ns.length) (h3 : l.length = ns.length ↔ ns.Nodup) :
    (∀ t, (∃ e, (keyL t, e) ∈ ChangeMaps.putKey (keyL s) d l) ↔ t ∈ ns ++ [s]) ∧ (ChangeMaps.putKey (keyL s) d l).length ≤ (ns ++ [s]).length ∧ ((ChangeMaps.putKey (keyL s) d l).length = (ns ++ [s]).length ↔ (ns ++ [s]).Nodup) := by
  have hlen : (ChangeMaps.putKey (keyL s) d l).length = (l.filter (ChangeMaps.notKey (keyL s))).length + 1 := by unfold ChangeMaps.putKey; rw [length_insert]
  have hfl := List.length_filter_le (ChangeMaps.notKey (keyL s)) l
  refine ⟨fun t => ?_, by simp; omega, ?_⟩
  · constructor
    · rintro ⟨e, he⟩
      unfold ChangeMaps.putKey at he
      rcases ChangeMaps.mem_insert_iff.1 he with h | h
      · simp only [Prod.mk.injEq] at h
        simp [keyL_inj h.1]
      · simp [(h1 t).1 ⟨e, (List.mem_filter.1 h).1⟩]
    · intro ht
      by_cases hts : t = s
      · subst hts
        exact ⟨d, ChangeMaps.mem_insert_iff.2 (Or.inl rfl)⟩
      · have : t ∈ ns := by simpa [hts] using ht
        obtain ⟨e, he⟩ := (h1 t).2 this
        exact ⟨e, ChangeMaps.mem_insert_iff.2 (Or.inr (List.mem_filter.2 ⟨he, (Maps.notKey_iff (isKey_str s)).2 (fun h => hts (keyL_inj h))⟩))⟩
  · rw [hlen]
    have hnd : (ns ++ [s]).Nodup ↔ ns.Nodup ∧ s ∉ ns := by
      rw [List.nodup_append]
      constructor
      · rintro ⟨a, _, c⟩
        exact ⟨a, fun hs => c s hs s (by simp) rfl⟩
      · rintro ⟨a, b⟩
        exact ⟨a, by simp, fun x hx y hy e => by simp at hy; subst hy; subst e; exact b hx⟩
    rw [hnd, ← h3]
    by_cases hs : s ∈ ns
    · obtain ⟨e, he⟩ := (h1 s).2 hs
      have : (l.filter (ChangeMaps.notKey (keyL s))).length < l.length := by
        rcases Nat.lt_or_ge (l.filter (ChangeMaps.notKey (keyL s))).length l.length with h | h
        · exact h
        · have e2 : l.filter (ChangeMaps.notKey (keyL s)) = l := List.filter_sublist.eq_of_length_le h
          rw [← e2] at he
          exact absurd rfl ((Maps.notKey_iff (isKey_str s)).1 (List.mem_filter.1 he).2)
      simp [hs]
      omega
    · have e2 : l.filter (ChangeMaps.notKey (keyL s)) = l := by
        rw [List.filter_eq_self]
        rintro ⟨k, e⟩ hx
        rw [Maps.notKey_iff (isKey_str s)]
        rintro rfl
        exact hs ((h1 s).1 ⟨e, hx⟩)
      rw [e2]
      simp [hs]
def lineOk (x : Line) : Bool := nameOk x.f0 && qty x.f1
def linesOk (l : List Line) : Bool := l.all lineOk && (decide (0 < l.length) && (decide (l.length ≤ 4) && decide (l.map (·.f0)).Nodup))
theorem take_snoc {α : Type} (l : List α) (k : Nat) (h : k < l.length) : l.take (k + 1) = l.take k ++ [l[k]] := by
  rw [List.take_succ_eq_append_getElem h]
theorem rd_T_at (l : List Line) (k : Nat) (h : k < l.length) : rd_T118 l (k : Int) = l[k] := by
  simp [rd_T118, List.getElem?_eq_getElem h, List.getD_eq_getElem?_getD]
theorem linesOk_bad (l : List Line) (k : Nat) (h : k < l.length) (hb : lineOk l[k] = false) : linesOk l = false := by
  unfold linesOk
  have : l.all lineOk = false := by
    rw [List.all_eq_false]
    exact ⟨l[k], List.getElem_mem h, by simp [hb]⟩
  rw [this]
  rfl
set_option maxRecDepth 20000 in
set_option maxHeartbeats 1600000 in
theorem item_lines (w : World) (A : Option Addr) (c : Nat) (l : List Line) (hA : kLine.C w A l.length l) (hc : l.length ≤ c) :
    Calls Tryd.prog 99 #[.slice A l.length c] w fun en w' => en = .returned (.bool (linesOk l)) ∧ Below w.heap.size w w' := by
  have hlm : l.length ≤ maxLen := hA.2.1
  have HLM := Aside0.mk hlm
  have HA := Aside0.mk hA
  clear hA hlm
  go_enter Tryd.func99, Tryd.ntmps99
  go_wp2_with fail
  rw [run_makeMap]
  go_wp2_with fail
  go_loopw [9] (fun v wr => ∃ k : Nat, k ≤ l.length ∧ v = .int .i64 k ∧ Aside0 ((l.take k).all lineOk = true) ∧ Aside0 (Had wr w.heap.size ((l.take k).map (·.f0))) ∧ Aside0 (Below w.heap.size w wr)) (fun v _ => l.length - (intOf v).toNat)
  case atStart => exact ⟨0, by omega, rfl, ⟨rfl⟩, ⟨by simpa using Had.made w⟩, ⟨below_alloc (Below.refl _ _) _⟩⟩
  case round =>
    obtain ⟨k, hk, rfl, HO, HH, HB⟩ := hrel
    by_cases hlt : k < l.length
    · have hb : decide ((k : Int) < (l.length : Int)) = true := by simp; omega
      obtain ⟨ad, e1, hc0, hc1⟩ := at_T118 HA.out (k : Int) (by omega) (by omega)
      cases e1
      rw [rd_T_at l k hlt] at hc0 hc1
      replace hc0 := (HB.out.cell (cell_blk hc0)).trans hc0
      replace hc1 := (HB.out.cell (cell_blk hc1)).trans hc1
      rw [Int.toNat_natCast] at hc0 hc1
      have HT := Aside0.mk (take_snoc l k hlt)
      have HBAD := Aside0.mk (linesOk_bad l k hlt)
      generalize l[k] = x at *
      have hlo : lineOk x = (nameOk x.f0 && qty x.f1) := rfl
      have HLO := Aside0.mk hlo
      clear hlo
      have hsz := Aside0.mk HB.out.size
      go_wp2_with fail
      refine (item_Name _ x.f0).mono ?_
      rintro en w1 ⟨rfl, hb1⟩
      have hs0 : w1.cell? ⟨wr.heap.size, 0, none⟩ = some (.string x.f0) := (hb1.cell (p := ⟨wr.heap.size, 0, none⟩) (by simp)).trans (by simp)
      have hs1 : w1.cell? ⟨wr.heap.size, 1, none⟩ = some (.int .i64 x.f1) := (hb1.cell (p := ⟨wr.heap.size, 1, none⟩) (by simp)).trans (by simp)
      have hb2 : Below wr.heap.size wr w1 := (below_alloc (Below.refl _ _) _).trans (hb1.mono (by simp))
      have HB2 := Aside0.mk hb2
      clear hb1 hb2
      cases hn : nameOk x.f0
      · go_wp2_with fail
        go_ret
        exact ⟨by rw [HBAD.out (by rw [HLO.out, hn]; rfl)]; rfl, HB.out.trans (HB2.out.mono hsz.out)⟩
      · go_wp2_with fail
        refine (item_quantity _ x.f1).mono ?_
        rintro en w2 ⟨rfl, rfl⟩
        cases hq : qty x.f1
        · go_wp2_with fail
          go_ret
          exact ⟨by rw [HBAD.out (by rw [HLO.out, hn, hq]; rfl)]; rfl, HB.out.trans (HB2.out.mono hsz.out)⟩
        · have hsz8 : x.f0.size ≤ maxLen := by
            have : x.f0.size ≤ 8 := by
              unfold nameOk at hn
              simp at hn
              exact hn.2.1
            unfold maxLen
            omega
          have hkm : k < maxLen := by have := HLM.out; omega
          have hnl : ((l.take k).map (·.f0)).length = k := by simp; omega
          obtain ⟨ll, hown, hk1, hk2, hk3⟩ := HH.out.below HB2.out (by have := HB.out.size; have := World.ownsMap.lt HH.out.choose_spec.1; omega)
          rw [hnl] at hown
          have HP := Aside0.mk (had_put x.f0 (.lit (.int .i64 1)) hk1 hk2 hk3)
          have hkey := WideMaps.keyOf_string_mk (s := x.f0) Tryd.underlying9 hsz8
          have hval := plainElem_int (H := Unit) (P := Tryd.prog) Tryd.underlying3 (a := 1) (q := .i64) (by decide)
          clear hk1 hk2 hk3
          obtain ⟨w3, hrun, hown3, hgrow⟩ := World.ownsMap.update hown (Maps.string_keyed Tryd.underlying9) Tryd.underlying128 hkm hkey hval
          have HW := Aside0.mk hown3
          have HG := Aside0.mk hgrow
          clear hown3 hgrow hval hkey hown hkm
          go_wp2_with fail
          have hwk := wrap_next l.length k hlt HLM.out
          go_roundw
          case rel =>
            refine ⟨k + 1, by omega, by rw [hwk], ⟨?_⟩, ⟨?_⟩, ⟨?_⟩⟩
            · rw [HT.out, List.all_append, HO.out]
              simp [HLO.out, hn, hq]
            · rw [HT.out, List.map_append]
              exact Had.put x.f0 _ hnl HP.out HW.out
            · exact (HB.out.trans (HB2.out.mono hsz.out)).grown HG.out (by have := HB2.out.size; have := hsz.out; omega) (by intro k hk; cases hk; exact Nat.le_refl _)
          case measure => exact meas_step l.length k hlt hwk
    · have hb : decide ((k : Int) < (l.length : Int)) = false := by simp; omega
      obtain rfl : k = l.length := by omega
      obtain ⟨n, hm1, hm3⟩ := HH.out.len
      rw [List.length_map, List.take_length] at hm3
      have HM := Aside0.mk hm3
      have hall := HO.out
      rw [List.take_length] at hall
      have HAL := Aside0.mk hall
      clear hm3 hall
      by_cases h0 : 0 < l.length
      · have hd0 : decide ((0 : Int) < (l.length : Int)) = true := by simp; omega
        by_cases h4 : l.length ≤ 4
        · have hd4 : decide ((l.length : Int) ≤ 4) = true := by simp; omega
          go_wp2_with fail
          go_ret
          refine ⟨?_, HB.out⟩
          unfold linesOk
          rw [HAL.out]
          have : (decide (l.map (·.f0)).Nodup) = ((n : Int) == (l.length : Int)) := by
            rw [Bool.eq_iff_iff]
            simp only [decide_eq_true_eq, beq_iff_eq, ← HM.out]
            omega
          rw [this]
          simp [h4, h0]
        · have hd4 : decide ((l.length : Int) ≤ 4) = false := by simp; omega
          go_wp2_with fail
          go_ret
          exact ⟨by unfold linesOk; simp [h4], HB.out⟩
      · have hd0 : decide ((0 : Int) < (l.length : Int)) = false := decide_eq_false (by omega)
        go_wp2_with fail
        go_ret
        exact ⟨by unfold linesOk; simp [h0], HB.out⟩
end Go.Proofs.YtmeblifbkhpdnaaDoor.K
