-- Laid by a session's own program (wip/myprint.py) with the kit's print.py and contracts by hand.
import Derived.Test.YtijkbnfiphhohaaPSumMixedx0
import Derived.Test.YtijkbnfiphhohaaPSumMixedx1
namespace Go.Proofs.Ytijkbnfiphhohaa.PSumMixed
open Go.RowKit Go.Proofs.YtijkbnfiphhohaaW.PrintWords Go.Proofs.YtijkbnfiphhohaaW.PrintLast Go.Proofs.YtijkbnfiphhohaaW.PrintMore
attribute [local go_sem] max2_int min2_int max_two min_two max_three min_three max_four min_four   -- for this text's walks alone
set_option linter.unusedVariables false
set_option linter.unusedSimpArgs false

/-! ### sum_Fnv: function 16 -/
def sum_Fnv.l0 : Nat → Int → List Int → Int → Int → Option (Int)
  | 0, _, _, _, _ => none
  | k + 1, x3, x6, x7, x8 => if x8 < x7 then (if 0 ≤ x8 then (if x8 < (x6.length : Int) then (sum_Fnv.l0 k (IntKind.u64.wrap ((Go.bits .xor .u64 x3 (IntKind.u64.wrap (rd x6 x8))) * 1099511628211)) x6 x7 (wrap64 (x8 + 1))) else (none)) else (none)) else (some x3)
def sum_Fnv.f (k : Nat) (l0 : List Int) : Option (Int) := sum_Fnv.l0 k 14695981039346656037 l0 (l0.length : Int) 0
theorem sum_Fnv.mono_l : ∀ k, (∀ y0 y1 y2 y3, LeO (sum_Fnv.l0 k y0 y1 y2 y3) (sum_Fnv.l0 (k + 1) y0 y1 y2 y3))
  | 0 => fun _ _ _ _ r h => by simp [sum_Fnv.l0] at h
  | k + 1 => by
    have ih0 := sum_Fnv.mono_l k
    · intro y0 y1 y2 y3
      unfold sum_Fnv.l0
      repeat' first
      | (with_reducible exact ih0 _ _ _ _)
      | (with_reducible exact LeO.refl _)
      | (with_reducible exact LeO.none _)
      | (with_reducible refine LeO.ite ?_ ?_)
      | (with_reducible refine LeO.bind ?_ (fun _ => ?_))
      | exact ih0 _ _ _ _
      | exact LeO.none _
      | refine LeO.ite ?_ ?_
      | refine LeO.bind ?_ (fun _ => ?_)
theorem sum_Fnv.mono : ∀ a0 k, LeO (sum_Fnv.f k a0) (sum_Fnv.f (k + 1) a0) := by
  intro a0 k
  have ih0 := sum_Fnv.mono_l k
  unfold sum_Fnv.f
  repeat' first
      | (with_reducible exact ih0 _ _ _ _)
      | (with_reducible exact LeO.refl _)
      | (with_reducible exact LeO.none _)
      | (with_reducible refine LeO.ite ?_ ?_)
      | (with_reducible refine LeO.bind ?_ (fun _ => ?_))
      | exact ih0 _ _ _ _
      | exact LeO.none _
      | refine LeO.ite ?_ ?_
      | refine LeO.bind ?_ (fun _ => ?_)
set_option maxHeartbeats 8000000 in
set_option maxRecDepth 100000 in
theorem sum_Fnv.calls (k : Nat) (A0 : Option Addr) (c0 : Nat) (l0 : List Int) (r : Int) (w : World) (hr0 : Kd.C (Kd.int .u8) w A0 l0.length l0) (hc0 : l0.length ≤ c0) (h : sum_Fnv.f k l0 = some r) :
    Calls Try.prog 16 #[.slice A0 l0.length c0] w fun e w' => e = .returned (.int .u64 r) ∧ Drawn0 w w' := by
  have HR0 := Aside0.mk hr0
  have HC0 := Aside0.mk hc0
  clear hr0 hc0
  have H : (sum_Fnv.l0 k 14695981039346656037 l0 (l0.length : Int) 0) = some r := h
  clear h
  have H' := Aside0.mk H
  clear H
  go_enter Try.func16, Try.ntmps16
  go_wp2
  go_loopg [3, 8] k (fun kq v3 v8 w' => ∃ (x3_1 : Int) (x8_1 : Int), v3 = .int .u64 x3_1 ∧ v8 = .int .i64 x8_1 ∧ Aside0 (sum_Fnv.l0 kq x3_1 l0 (l0.length : Int) x8_1 = some r) ∧ Aside0 (kq ≤ k) ∧ Drawn0 w w')
  case atStart => exact ⟨(14695981039346656037), (0), (by first | rfl | (simp; done) | (simp [*]; done)), (by first | rfl | (simp; done) | (simp [*]; done)), H', ⟨Nat.le_refl _⟩, by repeat (first | exact Drawn0.refl _ | apply Drawn0.step)⟩
  case round =>
    clear H'
    try clear c1
    obtain ⟨x3_1, x8_1, rfl, rfl, HA, HK1, ⟨m1, rfl⟩⟩ := hrel
    cases gk with
    | zero => exact absurd HA.out (by simp [sum_Fnv.l0])
    | succ k1 =>
      have H := HA.out
      clear HA
      simp only [sum_Fnv.l0] at H
      by_cases c2 : x8_1 < (l0.length : Int)
      · rw [if_pos c2] at H
        have c2b0 : decide (x8_1 < (l0.length : Int)) = true := decide_eq_true c2
        clear c2
        by_cases c3 : 0 ≤ x8_1
        · rw [if_pos c3] at H
          have c3b0 : decide (0 ≤ x8_1) = true := decide_eq_true c3
          clear c3
          by_cases c4 : x8_1 < (l0.length : Int)
          · rw [if_pos c4] at H
            have c4b0 : decide (x8_1 < (l0.length : Int)) = true := decide_eq_true c4
            clear c4
            have H' := Aside0.mk H
            clear H
            have p117 : 0 ≤ (x8_1 : Int) := of_decide_eq_true (by first | (with_reducible assumption) | assumption)
            have q117 : x8_1 < (l0.length : Int) := of_decide_eq_true (by first | (with_reducible assumption) | assumption)
            obtain ⟨ad117, e117, hx117_0⟩ := Kd.at_int HR0.out x8_1 p117 q117
            cases e117
            replace p117 := eq_true p117
            replace q117 := eq_true q117
            go_wp2
            go_roundg k1
            case measure => have := HK1.out; omega
            case rel => exact ⟨(IntKind.u64.wrap ((Go.bits .xor .u64 x3_1 (IntKind.u64.wrap (rd l0 x8_1))) * 1099511628211)), (wrap64 (x8_1 + 1)), (by first | rfl | (simp; done) | (simp [*]; done)), (by first | rfl | (simp; done) | (simp [*]; done)), H', ⟨by have := HK1.out; omega⟩, by repeat (first | exact Drawn0.refl _ | apply Drawn0.step)⟩
          · rw [if_neg c4] at H
            exact absurd H (by simp)
        · rw [if_neg c3] at H
          exact absurd H (by simp)
      · rw [if_neg c2] at H
        have c2b0 : decide (x8_1 < (l0.length : Int)) = false := decide_eq_false c2
        clear c2
        obtain rfl := Option.some.inj H
        go_wp2
        go_ret
        exact ⟨by first | rfl | (simp; done) | (simp [*]; done), by repeat (first | exact Drawn0.refl _ | apply Drawn0.step)⟩

/-! ### gimbalref00_EqBytes: function 18 -/
def gimbalref00_EqBytes.f (l0 : List Int) (l1 : List Int) : Option (Bool) := some ((strOfNums l0).toList == (strOfNums l1).toList)
set_option maxHeartbeats 8000000 in
set_option maxRecDepth 100000 in
theorem gimbalref00_EqBytes.calls (A0 : Option Addr) (c0 : Nat) (l0 : List Int) (A1 : Option Addr) (c1 : Nat) (l1 : List Int) (r : Bool) (w : World) (hr0 : Kd.C (Kd.int .u8) w A0 l0.length l0) (hc0 : l0.length ≤ c0) (hr1 : Kd.C (Kd.int .u8) w A1 l1.length l1) (hc1 : l1.length ≤ c1) (h : gimbalref00_EqBytes.f l0 l1 = some r) :
    Calls Try.prog 18 #[.slice A0 l0.length c0, .slice A1 l1.length c1] w fun e w' => e = .returned (.bool r) ∧ Drawn0 w w' := by
  have HR0 := Aside0.mk hr0
  have HC0 := Aside0.mk hc0
  clear hr0 hc0
  have HR1 := Aside0.mk hr1
  have HC1 := Aside0.mk hc1
  clear hr1 hc1
  have H : (some ((strOfNums l0).toList == (strOfNums l1).toList)) = some r := h
  clear h
  obtain rfl := Option.some.inj H
  have hcv3 := Kd.C_string (P := Try.prog) (A := A0) (c := c0) Try.underlying22 Try.underlying5 Try.underlying9 HR0.out
  have hcv4 := Kd.C_string (P := Try.prog) (A := A1) (c := c1) Try.underlying22 Try.underlying5 Try.underlying9 HR1.out
  go_enter Try.func18, Try.ntmps18
  go_wp2
  go_ret
  exact ⟨by first | rfl | (simp; done) | (simp [*]; done), by repeat (first | exact Drawn0.refl _ | apply Drawn0.step)⟩

/-! ### gimballaw02_works: function 19 (by hand) -/
theorem lit_C (W : World) (e : Nat) (fr : Nat × Nat) (xs : List Int) (hm : xs.length ≤ 9223372036854775807) : Kd.C (Kd.int .u8) (W.alloc (.cells (nums .u8 xs).toArray e fr)) (some ⟨W.heap.size, 0, none⟩) xs.length xs := by
  refine Kd.C_of_reads (d := 0) (enc := fun x => Value.int .u8 x) (h1 := fun _ => rfl) ⟨rfl, hm, fun _ => ⟨_, rfl, fun j hj => ?_⟩⟩
  rw [add_plain, World.cell?_alloc_mark]
  simp [nums, List.getElem?_eq_getElem hj, List.getD_eq_getElem?_getD]
def gimballaw02_works.f : Option Bool := some true
theorem works1 : sum_Seal.f 10 [] = some ([0, 0, 0, 0], 0) := by decide +kernel
theorem works2 : sum_Open.f 10 [0, 0, 0, 1] = some ([], 20) := by decide +kernel
theorem works3 : sum_Open.f 10 [0] = some ([], 3) := by decide +kernel
theorem works4 : sum_Crc.f [49, 50, 51, 52, 53, 54, 55, 56, 57] = some 3421780262 := by decide +kernel
theorem works5 : sum_Crc.f [] = some 0 := by decide +kernel
theorem works6 : sum_Fnv.f 10 [] = some 14695981039346656037 := by decide +kernel
theorem works7 : sum_Fnv.f 10 [97] = some 12638187200555641996 := by decide +kernel
theorem works8 : gimbalref00_EqBytes.f [0, 0, 0, 0] [0, 0, 0, 0] = some true := by decide +kernel
theorem bnext {w w1 w2 : World} (hb : Below w.heap.size w w1) (o : Obj) (h : Below (w1.alloc o).heap.size (w1.alloc o) w2) : Below w.heap.size w w2 :=
  (below_alloc hb o).trans (h.mono (below_alloc hb o).size)
theorem bnext0 {w w1 w2 : World} (hb : Below w.heap.size w w1) (h : Below w1.heap.size w1 w2) : Below w.heap.size w w2 :=
  hb.trans (h.mono hb.size)
theorem drawn_below {w w' : World} (h : Drawn0 w w') : Below w.heap.size w w' := h.below
set_option maxHeartbeats 8000000 in
set_option maxRecDepth 100000 in
theorem gimballaw02_works.calls (r : Bool) (w : World) (h : gimballaw02_works.f = some r) :
    Calls Try.prog 19 #[] w fun e w' => e = .returned (.bool r) ∧ Below w.heap.size w w' := by
  obtain rfl := Option.some.inj h
  clear h
  have kc := fun (w : World) (C : Array Value) (n c : Nat) => Lib.run_convert_bytes_const (P := Try.prog) w 22 5 C n c Try.underlying22 Try.underlying5
  go_enter Try.func19, Try.ntmps19
  go_wp2_with fail
  refine (sum_Seal.calls 10 none 0 [] _ _ _ (Kd.C_nil _ _) (Nat.le_refl _) works1).mono ?_
  rintro e w1 ⟨v1, rfl, ho, hb⟩
  have HS := Aside0.mk ho
  have HB := Aside0.mk hb
  clear ho hb
  go_wp2_with fail
  refine (sum_Open.calls 10 _ 4 [0, 0, 0, 1] _ _ _ (lit_C w1 5 (0, 0) [0, 0, 0, 1] (by decide)) (Nat.le_refl _) works2).mono ?_
  rintro e w2 ⟨v2, rfl, -, hb⟩
  have HB2 := Aside0.mk (bnext HB.out _ hb)
  have HS2 := Aside0.mk (Kd.R_below (Kd.R_alloc HS.out (.cells #[.int .u8 0, .int .u8 0, .int .u8 0, .int .u8 1] 5)) hb)
  clear hb HB HS
  go_wp2_with fail
  refine (sum_Open.calls 10 _ 1 [0] _ _ _ (lit_C w2 5 (0, 0) [0] (by decide)) (Nat.le_refl _) works3).mono ?_
  rintro e w3 ⟨v3, rfl, -, hb⟩
  have HB3 := Aside0.mk (bnext HB2.out _ hb)
  have HS3 := Aside0.mk (Kd.R_below (Kd.R_alloc HS2.out (.cells #[.int .u8 0] 5)) hb)
  clear hb HB2 HS2
  go_wp2_with fail
  refine (sum_Crc.calls _ 9 [49, 50, 51, 52, 53, 54, 55, 56, 57] _ _ (lit_C w3 5 (9, 10) [49, 50, 51, 52, 53, 54, 55, 56, 57] (by decide)) (Nat.le_refl _) works4).mono ?_
  rintro e w4 ⟨rfl, hb⟩
  have HB4 := Aside0.mk (bnext HB3.out _ hb)
  have HS4 := Aside0.mk (Kd.R_below (Kd.R_alloc HS3.out (.cells #[.int .u8 49, .int .u8 50, .int .u8 51, .int .u8 52, .int .u8 53, .int .u8 54, .int .u8 55, .int .u8 56, .int .u8 57] 5 (9, 10))) hb)
  clear hb HB3 HS3
  go_wp2_with fail
  refine (sum_Crc.calls none 0 [] _ _ (Kd.C_nil _ _) (Nat.le_refl _) works5).mono ?_
  rintro e w5 ⟨rfl, hb⟩
  have HB5 := Aside0.mk (bnext0 HB4.out hb)
  have HS5 := Aside0.mk (Kd.R_below HS4.out hb)
  clear hb HB4 HS4
  go_wp2_with fail
  refine (sum_Fnv.calls 10 none 0 [] _ _ (Kd.C_nil _ _) (Nat.le_refl _) works6).mono ?_
  rintro e w6 ⟨rfl, hd⟩
  have hb := hd.below
  have HB6 := Aside0.mk (bnext0 HB5.out hb)
  have HS6 := Aside0.mk (Kd.R_below HS5.out hb)
  clear hd hb HB5 HS5
  go_wp2_with fail
  refine (sum_Fnv.calls 10 _ 1 [97] _ _ (lit_C w6 5 (1, 2) [97] (by decide)) (Nat.le_refl _) works7).mono ?_
  rintro e w7 ⟨rfl, hd⟩
  have hb := hd.below
  have HB7 := Aside0.mk (bnext HB6.out _ hb)
  have HS7 := Aside0.mk (Kd.R_below (Kd.R_alloc HS6.out (.cells #[.int .u8 97] 5 (1, 2))) hb)
  clear hd hb HB6 HS6
  obtain ⟨A, c, hv, hc, hr⟩ := Kd.R_reads HS7.out
  subst hv
  have HR := Aside0.mk (Kd.C_alloc hr (.cells #[.int .u8 0, .int .u8 0, .int .u8 0, .int .u8 0] 5))
  have HCc := Aside0.mk hc
  clear hc hr
  go_wp2_with fail
  refine (gimbalref00_EqBytes.calls A c [0, 0, 0, 0] _ 4 [0, 0, 0, 0] _ _ HR.out HCc.out (lit_C w7 5 (0, 0) [0, 0, 0, 0] (by decide)) (Nat.le_refl _) works8).mono ?_
  rintro e w8 ⟨rfl, hd⟩
  have hb := hd.below
  have HB8 := Aside0.mk (bnext HB7.out _ hb)
  clear hd hb HB7 HS7 HR HCc
  go_wp2_with fail
  go_ret
  exact ⟨rfl, HB8.out⟩

end Go.Proofs.Ytijkbnfiphhohaa.PSumMixed
