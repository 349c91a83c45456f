/- Texts of this claim, put together: what its theorem does not use is left out. No conditions. -/
import Derived.Test.YtmeblifbkhpdnaaDoorVe
import Derived.Test.YtmeblifbkhpdnaaDoorVh
namespace Go.Proofs.YtmeblifbkhpdnaaDoor.K
set_option linter.unusedVariables false
set_option linter.unusedSimpArgs false
open Go.RowKit Go.Proofs.YtmeblifbkhpdnaaDoorW.PrintWords Go.Proofs.YtmeblifbkhpdnaaDoorW.PrintLast Go.Proofs.YtmeblifbkhpdnaaDoorW.PrintMore
attribute [local go_sem] max2_int min2_int max_two min_two max_three min_three max_four min_four
def gimbalref00_CopyBytes.f (l0 : List Int) : Option (List Int) := if ([] : List Int).length + l0.length < 140737488355328 then (some (([] : List Int) ++ l0)) else (none)
set_option maxHeartbeats 8000000 in
set_option maxRecDepth 100000 in
theorem gimbalref00_CopyBytes.calls (A0 : Option Addr) (c0 : Nat) (l0 : List Int) (r : List Int) (w : World) (hr0 : Kd.C (Kd.int .u8) w A0 l0.length l0) (hc0 : l0.length ≤ c0) (h : gimbalref00_CopyBytes.f l0 = some r) :
    Calls Tryd.prog 8 #[.slice A0 l0.length c0] w fun e w' => ∃ v0_ : Value, e = .returned (v0_) ∧ Kd.R (Kd.int .u8) 5 w' w.heap.size (fun _ => True) v0_ r ∧ Below w.heap.size w w' := by
  have HR0 := Aside0.mk hr0
  have HC0 := Aside0.mk hc0
  clear hr0 hc0
  have HB := Aside0.mk (Below.refl w.heap.size w)
  have H : (if ([] : List Int).length + l0.length < 140737488355328 then (some (([] : List Int) ++ l0)) else (none)) = some r := h
  clear h
  by_cases c2 : ([] : List Int).length + l0.length < 140737488355328
  · rw [if_pos c2] at H
    have LMc2 := Aside0.mk c2
    clear c2
    obtain ⟨y169, hy169⟩ : ∃ y_ : List Int, y_ = (([] : List Int) ++ l0) := ⟨_, rfl⟩
    replace H : (some y169) = some r := by first | (rw [hy169]; with_reducible exact H) | (have H2_ := (Option.bind_some _ _).symm.trans H; rw [hy169]; with_reducible exact H2_) | (have H2_ := (Option.bind_some _ _).symm.trans H; with_reducible exact H2_) | with_reducible exact H | (rw [hy169]; exact H) | exact H
    have Ny169 := Aside0.mk hy169
    clear hy169
    obtain rfl := Option.some.inj H
    go_enter Tryd.func8, Tryd.ntmps8
    go_wp2_with (first | ((with_reducible refine gate_builtin (b := .append) (xs := #[.tmp 4, .tmp 5]) rfl ?_); at_builtin; refine Kd.R_append_rows (Kd.int .u8) (w0 := w) w.heap.size rfl (.tmp 4) (.tmp 5) 22 5 (.int .u8 0) 1 rfl Tryd.underlying22 info5 rfl (by decide) (by omega) (.slice none 0 0) ([] : List Int) l0 _ _ _ (fun _ => True) (fun _ => False) rfl rfl ?aO ?aR (fun _ _ h => h) (fun _ h => h.elim) ?aF ?aB ?aS ?aL ?_; (case aR => repeat (first | exact HR0.out | (with_reducible refine Kd.C_alloc ?_ _) | (with_reducible refine Kd.C_drewN ?_ _) | (with_reducible refine Kd.C_drew ?_))); (case aB => exact (by repeat (first | (with_reducible first | exact HB.out | apply below_alloc | apply pw_below_drewN | apply below_drew1) | exact HB.out))); (case aF => exact (fun _ _ => trivial)); (case aO => exact ((Kd.R_nil _ _ _ _ (fun _ => True)))); (case aS => exact (below_size (by repeat (first | (with_reducible first | exact HB.out | apply below_alloc | apply pw_below_drewN | apply below_drew1) | exact HB.out)))); (case aL => have := LMc2.out; omega); intro v170 w3 ho hb hg hat; rw [← Ny169.out] at ho; have n0_ := Aside0.mk (hb); have n1_ := Aside0.mk (ho); clear HB; have HB := n0_; have HO171 := n1_; clear n0_ n1_; clear ho hb hg hat))
    go_ret
    exact ⟨_, by first | rfl | (simp [errW_none, errW_some] <;> rfl) | (simp [*, errW_none, errW_some] <;> rfl), by (with_reducible repeat (first | apply Kd.R_alloc | apply Kd.R_drewN | apply Kd.R_drew)); exact HO171.out, by repeat (first | (with_reducible first | exact HB.out | apply below_alloc | apply pw_below_drewN | apply below_drew1) | exact HB.out)⟩
  · rw [if_neg c2] at H
    exact absurd H (by simp)
def gimbalref01_Varint.l0 : Nat → Int → List Int → Option (List Int)
  | 0, _, _ => none
  | k + 1, x1, x5 => if x1 ≥ 128 then (if x5.length < 140737488355328 then (gimbalref01_Varint.l0 k (IntKind.u64.wrap (Int.tdiv x1 128)) (x5 ++ [(IntKind.u64.wrap ((Int.tmod x1 128) + 128)) % 256])) else (none)) else (if x5.length < 140737488355328 then (some (x5 ++ [(x1) % 256])) else (none))
def gimbalref01_Varint.f (k : Nat) (l0 : List Int) (a1 : Int) : Option (List Int) := (gimbalref00_CopyBytes.f l0).bind fun t172 => (gimbalref01_Varint.l0 k a1 t172)
set_option maxHeartbeats 8000000 in
set_option maxRecDepth 100000 in
theorem gimbalref01_Varint.calls (k : Nat) (A0 : Option Addr) (c0 : Nat) (l0 : List Int) (a1 : Int) (r : List Int) (w : World) (hr0 : Kd.C (Kd.int .u8) w A0 l0.length l0) (hc0 : l0.length ≤ c0) (h : gimbalref01_Varint.f k l0 a1 = some r) :
    Calls Tryd.prog 77 #[.slice A0 l0.length c0, .int .u64 a1] w fun e w' => ∃ v0_ : Value, e = .returned (v0_) ∧ Kd.R (Kd.int .u8) 5 w' w.heap.size (fun _ => True) v0_ r ∧ Below w.heap.size w w' := by
  have HR0 := Aside0.mk hr0
  have HC0 := Aside0.mk hc0
  clear hr0 hc0
  have HB := Aside0.mk (Below.refl w.heap.size w)
  have H : ((gimbalref00_CopyBytes.f l0).bind fun t172 => (gimbalref01_Varint.l0 k a1 t172)) = some r := h
  clear h
  replace H := Option.bind_eq_some_iff.mp H
  obtain ⟨t172, A30, H⟩ := H
  replace H : (gimbalref01_Varint.l0 k a1 t172) = some r := H
  have A3 := Aside0.mk A30
  clear A30
  have H' := Aside0.mk H
  clear H
  go_enter Tryd.func77, Tryd.ntmps77
  go_wp2_with (first | ((with_reducible refine gate_callee (f := 8) rfl ?_); refine goesL_ (some 7) rfl rfl Tryd.func8 (by kernel_rfl) rfl #[.slice A0 l0.length c0] rfl (by (try simp only [List.map_toArray, List.map_cons, List.map_nil]); first | done | rfl | (simp only [List.length_drop, List.length_take]; rfl)) ?_; (with_reducible refine (gimbalref00_CopyBytes.calls _ _ l0 t172 _ ?side1 ?side2 A3.out).mono ?_); (case side1 => repeat (first | exact HR0.out | (with_reducible refine Kd.C_alloc ?_ _) | (with_reducible refine Kd.C_drewN ?_ _) | (with_reducible refine Kd.C_drew ?_))); (case side2 => exact HC0.out); rintro e w4 ⟨v173, rfl, ho0, hb⟩; refine ⟨_, rfl, ?_⟩; have n0_ := Aside0.mk (Kd.R_lower ho0 (below_size (by repeat (first | (with_reducible first | exact HB.out | apply below_alloc | apply pw_below_drewN | apply below_drew1) | exact HB.out)))); have n1_ := Aside0.mk (below_step (by repeat (first | (with_reducible first | exact HB.out | apply below_alloc | apply pw_below_drewN | apply below_drew1) | exact HB.out)) hb); clear HB; have HO174 := n0_; have HB := n1_; clear n0_ n1_; (try clear hb); (try clear hb2); (try clear hk); (try clear hi); (try clear ho0)))
  go_loopg [1, 5] k (fun kq v1 v5 w' => ∃ (x1_1 : Int) (x5_1 : List Int), v1 = .int .u64 x1_1 ∧ Aside0 (gimbalref01_Varint.l0 kq x1_1 x5_1 = some r) ∧ Aside0 (kq ≤ k) ∧ Aside0 (Kd.R (Kd.int .u8) 5 w' w.heap.size (fun _ => True) v5 x5_1) ∧ Aside0 (Below w.heap.size w w'))
  case atStart => exact ⟨(a1), (t172), (by first | rfl | (simp; done) | (simp [*]; done)), H', ⟨Nat.le_refl _⟩, ⟨by (with_reducible repeat (first | apply Kd.R_alloc | apply Kd.R_drewN | apply Kd.R_drew)); exact HO174.out⟩, ⟨by repeat (first | (with_reducible first | exact HB.out | apply below_alloc | apply pw_below_drewN | apply below_drew1) | exact HB.out)⟩⟩
  case round =>
    clear H'
    try clear p2
    obtain ⟨x1_1, x5_1, rfl, HA, HK1, HO_5, HB⟩ := hrel
    cases gk with
    | zero => exact absurd HA.out (by simp [gimbalref01_Varint.l0])
    | succ k1 =>
      have H := HA.out
      clear HA
      simp only [gimbalref01_Varint.l0] at H
      by_cases c5 : x1_1 ≥ 128
      · rw [if_pos c5] at H
        have c5b0 : decide (128 ≤ x1_1) = true := decide_eq_true c5
        clear c5
        by_cases c6 : x5_1.length < 140737488355328
        · rw [if_pos c6] at H
          have LMc6 := Aside0.mk c6
          clear c6
          obtain ⟨y175, hy175⟩ : ∃ y_ : List Int, y_ = (x5_1 ++ [(IntKind.u64.wrap ((Int.tmod x1_1 128) + 128)) % 256]) := ⟨_, rfl⟩
          replace H : (gimbalref01_Varint.l0 k1 (IntKind.u64.wrap (Int.tdiv x1_1 128)) y175) = some r := by first | (rw [hy175]; with_reducible exact H) | (have H2_ := (Option.bind_some _ _).symm.trans H; rw [hy175]; with_reducible exact H2_) | (have H2_ := (Option.bind_some _ _).symm.trans H; with_reducible exact H2_) | with_reducible exact H | (rw [hy175]; exact H) | exact H
          have Ny175 := Aside0.mk hy175
          clear hy175
          have H' := Aside0.mk H
          clear H
          go_wp2_with (first | ((with_reducible refine gate_builtin (b := .append) (xs := #[.tmp 10, .tmp 15]) rfl ?_); at_builtin; refine Kd.R_append (Kd.int .u8) (w0 := w) w.heap.size rfl (.tmp 10) (.tmp 15) 22 5 (.int .u8 0) 1 rfl Tryd.underlying22 info5 rfl (by decide) (by omega) u5 x5_1 ((IntKind.u64.wrap ((Int.tmod x1_1 128) + 128)) % 256) [.int .u8 ((IntKind.u64.wrap ((Int.tmod x1_1 128) + 128)) % 256)] (fun _ => True) (fun _ => False) rfl rfl ?aP (fun _ hk => hk.elim) ?aF ?aO ?aB ?aS ?aL ?_; (case aP => exact rfl); (case aB => exact (by repeat (first | (with_reducible first | exact HB.out | apply below_alloc | apply pw_below_drewN | apply below_drew1) | exact HB.out))); (case aF => exact (fun _ _ => trivial)); (case aO => exact (by (with_reducible repeat (first | apply Kd.R_alloc | apply Kd.R_drewN | apply Kd.R_drew)); exact HO_5.out)); (case aS => exact (below_size (by repeat (first | (with_reducible first | exact HB.out | apply below_alloc | apply pw_below_drewN | apply below_drew1) | exact HB.out)))); (case aL => have := LMc6.out; omega); intro v176 w7 ho hb hg hat; rw [← Ny175.out] at ho; have n0_ := Aside0.mk (hb); have n1_ := Aside0.mk (ho); clear HB; clear HO_5; have HB := n0_; have HO177 := n1_; clear n0_ n1_; clear ho hb hg hat))
          go_roundg k1
          case measure => have := HK1.out; omega
          case rel => exact ⟨(IntKind.u64.wrap (Int.tdiv x1_1 128)), (y175), (by first | rfl | (simp; done) | (simp [*]; done)), H', ⟨by have := HK1.out; omega⟩, ⟨by (with_reducible repeat (first | apply Kd.R_alloc | apply Kd.R_drewN | apply Kd.R_drew)); exact HO177.out⟩, ⟨by repeat (first | (with_reducible first | exact HB.out | apply below_alloc | apply pw_below_drewN | apply below_drew1) | exact HB.out)⟩⟩
        · rw [if_neg c6] at H
          exact absurd H (by simp)
      · rw [if_neg c5] at H
        have c5b0 : decide (128 ≤ x1_1) = false := decide_eq_false c5
        clear c5
        by_cases c8 : x5_1.length < 140737488355328
        · rw [if_pos c8] at H
          have LMc8 := Aside0.mk c8
          clear c8
          obtain ⟨y178, hy178⟩ : ∃ y_ : List Int, y_ = (x5_1 ++ [(x1_1) % 256]) := ⟨_, rfl⟩
          replace H : (some y178) = some r := by first | (rw [hy178]; with_reducible exact H) | (have H2_ := (Option.bind_some _ _).symm.trans H; rw [hy178]; with_reducible exact H2_) | (have H2_ := (Option.bind_some _ _).symm.trans H; with_reducible exact H2_) | with_reducible exact H | (rw [hy178]; exact H) | exact H
          have Ny178 := Aside0.mk hy178
          clear hy178
          obtain rfl := Option.some.inj H
          go_wp2_with (first | ((with_reducible refine gate_builtin (b := .append) (xs := #[.tmp 19, .tmp 22]) rfl ?_); at_builtin; refine Kd.R_append (Kd.int .u8) (w0 := w) w.heap.size rfl (.tmp 19) (.tmp 22) 22 5 (.int .u8 0) 1 rfl Tryd.underlying22 info5 rfl (by decide) (by omega) u5 x5_1 ((x1_1) % 256) [.int .u8 ((x1_1) % 256)] (fun _ => True) (fun _ => False) rfl rfl ?aP (fun _ hk => hk.elim) ?aF ?aO ?aB ?aS ?aL ?_; (case aP => exact rfl); (case aB => exact (by repeat (first | (with_reducible first | exact HB.out | apply below_alloc | apply pw_below_drewN | apply below_drew1) | exact HB.out))); (case aF => exact (fun _ _ => trivial)); (case aO => exact (by (with_reducible repeat (first | apply Kd.R_alloc | apply Kd.R_drewN | apply Kd.R_drew)); exact HO_5.out)); (case aS => exact (below_size (by repeat (first | (with_reducible first | exact HB.out | apply below_alloc | apply pw_below_drewN | apply below_drew1) | exact HB.out)))); (case aL => have := LMc8.out; omega); intro v179 w9 ho hb hg hat; rw [← Ny178.out] at ho; have n0_ := Aside0.mk (hb); have n1_ := Aside0.mk (ho); clear HB; clear HO_5; have HB := n0_; have HO180 := n1_; clear n0_ n1_; clear ho hb hg hat))
          go_ret
          exact ⟨_, by first | rfl | (simp [errW_none, errW_some] <;> rfl) | (simp [*, errW_none, errW_some] <;> rfl), by (with_reducible repeat (first | apply Kd.R_alloc | apply Kd.R_drewN | apply Kd.R_drew)); exact HO180.out, by repeat (first | (with_reducible first | exact HB.out | apply below_alloc | apply pw_below_drewN | apply below_drew1) | exact HB.out)⟩
        · rw [if_neg c8] at H
          exact absurd H (by simp)
def gimbalref01_Text.f (k : Nat) (l0 : List Int) (l1 : List Int) : Option (List Int) := (gimbalref01_Varint.f k l0 (IntKind.u64.wrap ((l1.length : Int)))).bind fun t181 => (if t181.length + l1.length < 140737488355328 then (some (t181 ++ l1)) else (none))
set_option maxHeartbeats 8000000 in
set_option maxRecDepth 100000 in
theorem gimbalref01_Text.calls (k : Nat) (A0 : Option Addr) (c0 : Nat) (l0 : List Int) (A1 : Option Addr) (c1 : Nat) (l1 : List Int) (r : List Int) (w : World) (hr0 : Kd.C (Kd.int .u8) w A0 l0.length l0) (hc0 : l0.length ≤ c0) (hr1 : Kd.C (Kd.int .u8) w A1 l1.length l1) (hc1 : l1.length ≤ c1) (h : gimbalref01_Text.f k l0 l1 = some r) :
    Calls Tryd.prog 80 #[.slice A0 l0.length c0, .slice A1 l1.length c1] w fun e w' => ∃ v0_ : Value, e = .returned (v0_) ∧ Kd.R (Kd.int .u8) 5 w' w.heap.size (fun _ => True) v0_ r ∧ Below w.heap.size w w' := by
  have HR0 := Aside0.mk hr0
  have HC0 := Aside0.mk hc0
  clear hr0 hc0
  have HR1 := Aside0.mk hr1
  have HC1 := Aside0.mk hc1
  clear hr1 hc1
  have HB := Aside0.mk (Below.refl w.heap.size w)
  have H : ((gimbalref01_Varint.f k l0 (IntKind.u64.wrap ((l1.length : Int)))).bind fun t181 => (if t181.length + l1.length < 140737488355328 then (some (t181 ++ l1)) else (none))) = some r := h
  clear h
  replace H := Option.bind_eq_some_iff.mp H
  obtain ⟨t181, A30, H⟩ := H
  replace H : (if t181.length + l1.length < 140737488355328 then (some (t181 ++ l1)) else (none)) = some r := H
  have A3 := Aside0.mk A30
  clear A30
  by_cases c4 : t181.length + l1.length < 140737488355328
  · rw [if_pos c4] at H
    have LMc4 := Aside0.mk c4
    clear c4
    obtain ⟨y184, hy184⟩ : ∃ y_ : List Int, y_ = (t181 ++ l1) := ⟨_, rfl⟩
    replace H : (some y184) = some r := by first | (rw [hy184]; with_reducible exact H) | (have H2_ := (Option.bind_some _ _).symm.trans H; rw [hy184]; with_reducible exact H2_) | (have H2_ := (Option.bind_some _ _).symm.trans H; with_reducible exact H2_) | with_reducible exact H | (rw [hy184]; exact H) | exact H
    have Ny184 := Aside0.mk hy184
    clear hy184
    obtain rfl := Option.some.inj H
    go_enter Tryd.func80, Tryd.ntmps80
    go_wp2_with (first | ((with_reducible refine gate_callee (f := 77) rfl ?_); refine goesL_ (some 9) rfl rfl Tryd.func77 (by kernel_rfl) rfl #[.slice A0 l0.length c0, .int .u64 (IntKind.u64.wrap ((l1.length : Int)))] rfl (by (try simp only [List.map_toArray, List.map_cons, List.map_nil]); first | done | rfl | (simp only [List.length_drop, List.length_take]; rfl)) ?_; (with_reducible refine (gimbalref01_Varint.calls k _ _ l0 (IntKind.u64.wrap ((l1.length : Int))) t181 _ ?side1 ?side2 A3.out).mono ?_); (case side1 => repeat (first | exact HR0.out | (with_reducible refine Kd.C_alloc ?_ _) | (with_reducible refine Kd.C_drewN ?_ _) | (with_reducible refine Kd.C_drew ?_))); (case side2 => exact HC0.out); rintro e w5 ⟨v182, rfl, ho0, hb⟩; refine ⟨_, rfl, ?_⟩; have n0_ := Aside0.mk (Kd.R_lower ho0 (below_size (by repeat (first | (with_reducible first | exact HB.out | apply below_alloc | apply pw_below_drewN | apply below_drew1) | exact HB.out)))); have n1_ := Aside0.mk (below_step (by repeat (first | (with_reducible first | exact HB.out | apply below_alloc | apply pw_below_drewN | apply below_drew1) | exact HB.out)) hb); clear HB; have HO183 := n0_; have HB := n1_; clear n0_ n1_; (try clear hb); (try clear hb2); (try clear hk); (try clear hi); (try clear ho0)) | ((with_reducible refine gate_builtin (b := .append) (xs := #[.tmp 9, .tmp 10]) rfl ?_); at_builtin; refine Kd.R_append_rows (Kd.int .u8) (w0 := w) w.heap.size rfl (.tmp 9) (.tmp 10) 22 5 (.int .u8 0) 1 rfl Tryd.underlying22 info5 rfl (by decide) (by omega) v182 t181 l1 _ _ _ (fun _ => True) (fun _ => False) rfl rfl ?aO ?aR (fun _ _ h => h) (fun _ h => h.elim) ?aF ?aB ?aS ?aL ?_; (case aR => repeat (first | exact (Kd.C_below HR1.out HB.out) | (with_reducible refine Kd.C_alloc ?_ _) | (with_reducible refine Kd.C_drewN ?_ _) | (with_reducible refine Kd.C_drew ?_))); (case aB => exact (by repeat (first | (with_reducible first | exact HB.out | apply below_alloc | apply pw_below_drewN | apply below_drew1) | exact HB.out))); (case aF => exact (fun _ _ => trivial)); (case aO => exact (by (with_reducible repeat (first | apply Kd.R_alloc | apply Kd.R_drewN | apply Kd.R_drew)); exact HO183.out)); (case aS => exact (below_size (by repeat (first | (with_reducible first | exact HB.out | apply below_alloc | apply pw_below_drewN | apply below_drew1) | exact HB.out)))); (case aL => have := LMc4.out; omega); intro v185 w6 ho hb hg hat; rw [← Ny184.out] at ho; have n0_ := Aside0.mk (hb); have n1_ := Aside0.mk (ho); clear HB; clear HO183; have HB := n0_; have HO186 := n1_; clear n0_ n1_; clear ho hb hg hat))
    go_ret
    exact ⟨_, by first | rfl | (simp [errW_none, errW_some] <;> rfl) | (simp [*, errW_none, errW_some] <;> rfl), by (with_reducible repeat (first | apply Kd.R_alloc | apply Kd.R_drewN | apply Kd.R_drew)); exact HO186.out, by repeat (first | (with_reducible first | exact HB.out | apply below_alloc | apply pw_below_drewN | apply below_drew1) | exact HB.out)⟩
  · rw [if_neg c4] at H
    exact absurd H (by simp)
def gimbalref01_Zig.f (a0 : Int) : Option (Int) := if a0 < 0 then (some (IntKind.u64.wrap ((IntKind.u64.wrap (2 * (IntKind.u64.wrap (wrap64 (-(wrap64 (a0 + 1))))))) + 1))) else (some (IntKind.u64.wrap (2 * (IntKind.u64.wrap (a0)))))
set_option maxHeartbeats 8000000 in
set_option maxRecDepth 100000 in
theorem gimbalref01_Zig.calls (a0 : Int) (r : Int) (w : World) (h : gimbalref01_Zig.f a0 = some r) :
    Calls Tryd.prog 118 #[.int .i64 a0] w fun e w' => e = .returned (.int .u64 r) ∧ Drawn0 w w' := by
  have H : (if a0 < 0 then (some (IntKind.u64.wrap ((IntKind.u64.wrap (2 * (IntKind.u64.wrap (wrap64 (-(wrap64 (a0 + 1))))))) + 1))) else (some (IntKind.u64.wrap (2 * (IntKind.u64.wrap (a0)))))) = some r := h
  clear h
  by_cases c2 : a0 < 0
  · rw [if_pos c2] at H
    have c2b0 : decide (a0 < 0) = true := decide_eq_true c2
    clear c2
    obtain rfl := Option.some.inj H
    go_enter Tryd.func118, Tryd.ntmps118
    go_wp2
    go_ret
    exact ⟨by first | rfl | (simp; done) | (simp [*]; done), by repeat (first | exact Drawn0.refl _ | apply Drawn0.step)⟩
  · rw [if_neg c2] at H
    have c2b0 : decide (a0 < 0) = false := decide_eq_false c2
    clear c2
    obtain rfl := Option.some.inj H
    go_enter Tryd.func118, Tryd.ntmps118
    go_wp2
    go_ret
    exact ⟨by first | rfl | (simp; done) | (simp [*]; done), by repeat (first | exact Drawn0.refl _ | apply Drawn0.step)⟩
def gimbalref01_Int.f (k : Nat) (l0 : List Int) (a1 : Int) : Option (List Int) := (gimbalref01_Zig.f a1).bind fun t187 => ((gimbalref01_Varint.f k l0 t187).bind fun t188 => (some t188))
set_option maxHeartbeats 8000000 in
set_option maxRecDepth 100000 in
theorem gimbalref01_Int.calls (k : Nat) (A0 : Option Addr) (c0 : Nat) (l0 : List Int) (a1 : Int) (r : List Int) (w : World) (hr0 : Kd.C (Kd.int .u8) w A0 l0.length l0) (hc0 : l0.length ≤ c0) (h : gimbalref01_Int.f k l0 a1 = some r) :
    Calls Tryd.prog 110 #[.slice A0 l0.length c0, .int .i64 a1] w fun e w' => ∃ v0_ : Value, e = .returned (v0_) ∧ Kd.R (Kd.int .u8) 5 w' w.heap.size (fun _ => True) v0_ r ∧ Below w.heap.size w w' := by
  have HR0 := Aside0.mk hr0
  have HC0 := Aside0.mk hc0
  clear hr0 hc0
  have HB := Aside0.mk (Below.refl w.heap.size w)
  have H : ((gimbalref01_Zig.f a1).bind fun t187 => ((gimbalref01_Varint.f k l0 t187).bind fun t188 => (some t188))) = some r := h
  clear h
  replace H := Option.bind_eq_some_iff.mp H
  obtain ⟨t187, A30, H⟩ := H
  replace H : ((gimbalref01_Varint.f k l0 t187).bind fun t188 => (some t188)) = some r := H
  have A3 := Aside0.mk A30
  clear A30
  replace H := Option.bind_eq_some_iff.mp H
  obtain ⟨t188, A40, H⟩ := H
  replace H : (some t188) = some r := H
  have A4 := Aside0.mk A40
  clear A40
  obtain rfl := Option.some.inj H
  go_enter Tryd.func110, Tryd.ntmps110
  go_wp2_with (first | ((with_reducible refine gate_callee (f := 118) rfl ?_); refine goesL_ (some 7) rfl rfl Tryd.func118 (by kernel_rfl) rfl #[.int .i64 a1] rfl (by (try simp only [List.map_toArray, List.map_cons, List.map_nil]); first | done | rfl | (simp only [List.length_drop, List.length_take]; rfl)) ?_; (with_reducible refine (gimbalref01_Zig.calls a1 t187 _ A3.out).mono ?_); rintro e w' ⟨rfl, ⟨nd, rfl⟩⟩; refine ⟨_, rfl, ?_⟩) | ((with_reducible refine gate_callee (f := 77) rfl ?_); refine goesL_ (some 8) rfl rfl Tryd.func77 (by kernel_rfl) rfl #[.slice A0 l0.length c0, .int .u64 t187] rfl (by (try simp only [List.map_toArray, List.map_cons, List.map_nil]); first | done | rfl | (simp only [List.length_drop, List.length_take]; rfl)) ?_; (with_reducible refine (gimbalref01_Varint.calls k _ _ l0 t187 t188 _ ?side1 ?side2 A4.out).mono ?_); (case side1 => repeat (first | exact HR0.out | (with_reducible refine Kd.C_alloc ?_ _) | (with_reducible refine Kd.C_drewN ?_ _) | (with_reducible refine Kd.C_drew ?_))); (case side2 => exact HC0.out); rintro e w5 ⟨v189, rfl, ho0, hb⟩; refine ⟨_, rfl, ?_⟩; have n0_ := Aside0.mk (Kd.R_lower ho0 (below_size (by repeat (first | (with_reducible first | exact HB.out | apply below_alloc | apply pw_below_drewN | apply below_drew1) | exact HB.out)))); have n1_ := Aside0.mk (below_step (by repeat (first | (with_reducible first | exact HB.out | apply below_alloc | apply pw_below_drewN | apply below_drew1) | exact HB.out)) hb); clear HB; have HO190 := n0_; have HB := n1_; clear n0_ n1_; (try clear hb); (try clear hb2); (try clear hk); (try clear hi); (try clear ho0)))
  go_ret
  exact ⟨_, by first | rfl | (simp [errW_none, errW_some] <;> rfl) | (simp [*, errW_none, errW_some] <;> rfl), by (with_reducible repeat (first | apply Kd.R_alloc | apply Kd.R_drewN | apply Kd.R_drew)); exact HO190.out, by repeat (first | (with_reducible first | exact HB.out | apply below_alloc | apply pw_below_drewN | apply below_drew1) | exact HB.out)⟩
def gimbalref01_sized.f (a0 : Int) : Option (Bool) := if a0 = 8 then (some true) else (if a0 = 16 then (some true) else (if a0 = 32 then (some true) else (some (a0 == 64))))
set_option maxHeartbeats 8000000 in
set_option maxRecDepth 100000 in
theorem gimbalref01_sized.calls (a0 : Int) (r : Bool) (w : World) (h : gimbalref01_sized.f a0 = some r) :
    Calls Tryd.prog 65 #[.int .i64 a0] w fun e w' => e = .returned (.bool r) ∧ Drawn0 w w' := by
  have H : (if a0 = 8 then (some true) else (if a0 = 16 then (some true) else (if a0 = 32 then (some true) else (some (a0 == 64))))) = some r := h
  clear h
  by_cases c2 : a0 = 8
  · rw [if_pos c2] at H
    have c2b0 : (a0 == 8) = true := beq_iff_eq.mpr c2
    have c2b1 : (a0 != 8) = false := bne_eq_false_iff_eq.mpr c2
    clear c2
    obtain rfl := Option.some.inj H
    go_enter Tryd.func65, Tryd.ntmps65
    go_wp2
    go_ret
    exact ⟨by first | rfl | (simp; done) | (simp [*]; done), by repeat (first | exact Drawn0.refl _ | apply Drawn0.step)⟩
  · rw [if_neg c2] at H
    have c2b0 : (a0 == 8) = false := beq_eq_false_iff_ne.mpr c2
    have c2b1 : (a0 != 8) = true := bne_iff_ne.mpr c2
    by_cases c3 : a0 = 16
    · rw [if_pos c3] at H
      have c3b0 : (a0 == 16) = true := beq_iff_eq.mpr c3
      have c3b1 : (a0 != 16) = false := bne_eq_false_iff_eq.mpr c3
      clear c3
      obtain rfl := Option.some.inj H
      go_enter Tryd.func65, Tryd.ntmps65
      go_wp2
      go_ret
      exact ⟨by first | rfl | (simp; done) | (simp [*]; done), by repeat (first | exact Drawn0.refl _ | apply Drawn0.step)⟩
    · rw [if_neg c3] at H
      have c3b0 : (a0 == 16) = false := beq_eq_false_iff_ne.mpr c3
      have c3b1 : (a0 != 16) = true := bne_iff_ne.mpr c3
      by_cases c4 : a0 = 32
      · rw [if_pos c4] at H
        have c4b0 : (a0 == 32) = true := beq_iff_eq.mpr c4
        have c4b1 : (a0 != 32) = false := bne_eq_false_iff_eq.mpr c4
        clear c4
        obtain rfl := Option.some.inj H
        go_enter Tryd.func65, Tryd.ntmps65
        go_wp2
        go_ret
        exact ⟨by first | rfl | (simp; done) | (simp [*]; done), by repeat (first | exact Drawn0.refl _ | apply Drawn0.step)⟩
      · rw [if_neg c4] at H
        have c4b0 : (a0 == 32) = false := beq_eq_false_iff_ne.mpr c4
        have c4b1 : (a0 != 32) = true := bne_iff_ne.mpr c4
        obtain rfl := Option.some.inj H
        go_enter Tryd.func65, Tryd.ntmps65
        go_wp2
        go_ret
        exact ⟨by first | rfl | (simp; done) | (simp [*]; done), by repeat (first | exact Drawn0.refl _ | apply Drawn0.step)⟩
mutual
def gimbalref01_Put.j0 : Nat → List Int → Int → Int → Bool → Option (List Int × Int)
  | 0, _, _, _, _ => none
  | k + 1, x0, x1, x2, x20 => if x20 = true then (some (([] : List Int), 9)) else ((gimbalref00_CopyBytes.f x0).bind fun t219 => (gimbalref01_Put.l0 k x2 t219 (wrap64 (x1 - 8))))
def gimbalref01_Put.l0 : Nat → Int → List Int → Int → Option (List Int × Int)
  | 0, _, _, _ => none
  | k + 1, x2, x8, x9 => if x9 ≥ 0 then (if 0 ≤ x9 then (if x8.length < 140737488355328 then (gimbalref01_Put.l0 k x2 (x8 ++ [(shr .u64 x2 x9) % 256]) (wrap64 (x9 - 8))) else (none)) else (none)) else (some (x8, 0))
end
def gimbalref01_Put.f (k : Nat) (l0 : List Int) (a1 : Int) (a2 : Int) : Option (List Int × Int) := (gimbalref01_sized.f a1).bind fun t218 => (if t218 = true then (if a1 < 64 then (if 0 ≤ a1 then (gimbalref01_Put.j0 k l0 a1 a2 ((shr .u64 a2 a1) != 0)) else (none)) else (gimbalref01_Put.j0 k l0 a1 a2 false)) else (some (([] : List Int), 2)))
set_option maxHeartbeats 8000000 in
set_option maxRecDepth 100000 in
theorem gimbalref01_Put.calls (k : Nat) (A0 : Option Addr) (c0 : Nat) (l0 : List Int) (a1 : Int) (a2 : Int) (r1 : List Int) (r2 : Int) (w : World) (hr0 : Kd.C (Kd.int .u8) w A0 l0.length l0) (hc0 : l0.length ≤ c0) (h : gimbalref01_Put.f k l0 a1 a2 = some (r1, r2)) :
    Calls Tryd.prog 40 #[.slice A0 l0.length c0, .int .i64 a1, .int .u64 a2] w fun e w' => ∃ v0_ : Value, e = .returned (.tuple #[v0_, .int .i64 r2]) ∧ Kd.R (Kd.int .u8) 5 w' w.heap.size (fun _ => True) v0_ r1 ∧ Below w.heap.size w w' := by
  have HR0 := Aside0.mk hr0
  have HC0 := Aside0.mk hc0
  clear hr0 hc0
  have HB := Aside0.mk (Below.refl w.heap.size w)
  have H : ((gimbalref01_sized.f a1).bind fun t218 => (if t218 = true then (if a1 < 64 then (if 0 ≤ a1 then (gimbalref01_Put.j0 k l0 a1 a2 ((shr .u64 a2 a1) != 0)) else (none)) else (gimbalref01_Put.j0 k l0 a1 a2 false)) else (some (([] : List Int), 2)))) = some (r1, r2) := h
  clear h
  replace H := Option.bind_eq_some_iff.mp H
  obtain ⟨t218, A40, H⟩ := H
  replace H : (if t218 = true then (if a1 < 64 then (if 0 ≤ a1 then (gimbalref01_Put.j0 k l0 a1 a2 ((shr .u64 a2 a1) != 0)) else (none)) else (gimbalref01_Put.j0 k l0 a1 a2 false)) else (some (([] : List Int), 2))) = some (r1, r2) := H
  have A4 := Aside0.mk A40
  clear A40
  by_cases c5 : t218 = true
  · subst c5
    have H1 : (if a1 < 64 then (if 0 ≤ a1 then (gimbalref01_Put.j0 k l0 a1 a2 ((shr .u64 a2 a1) != 0)) else (none)) else (gimbalref01_Put.j0 k l0 a1 a2 false)) = some (r1, r2) := by rw [if_pos rfl] at H; exact H
    clear H
    have H := H1
    clear H1
    have HC6 := Aside0.mk H
    clear H
    go_enter Tryd.func40, Tryd.ntmps40
    go_upto_region 3 with (first | ((with_reducible refine gate_callee (f := 65) rfl ?_); refine goesL_ (some 11) rfl rfl Tryd.func65 (by kernel_rfl) rfl #[.int .i64 a1] rfl (by (try simp only [List.map_toArray, List.map_cons, List.map_nil]); first | done | rfl | (simp only [List.length_drop, List.length_take]; rfl)) ?_; (with_reducible refine (gimbalref01_sized.calls a1 true _ A4.out).mono ?_); rintro e w' ⟨rfl, ⟨nd, rfl⟩⟩; refine ⟨_, rfl, ?_⟩))
    (try simp only [Act.put, List.setIfInBounds_toArray, List.set_cons_zero, List.set_cons_succ])
    go_cut [20] (fun v20 wc => ∃ (kq : Nat) (x20_5 : Bool), v20 = .bool x20_5 ∧ Aside0 (gimbalref01_Put.j0 kq l0 a1 a2 x20_5 = some (r1, r2)) ∧ Aside0 (kq ≤ k) ∧ Aside0 (Below w.heap.size w wc))
    case first =>
      have H := HC6.out
      clear HC6
      by_cases c7 : a1 < 64
      · rw [if_pos c7] at H
        have c7b0 : decide (a1 < 64) = true := decide_eq_true c7
        clear c7
        (first | rw [c7b0] | (simp only [i64_w, i32_w]; rw [c7b0]) | skip)
        by_cases c8 : 0 ≤ a1
        · rw [if_pos c8] at H
          have c8b0 := eq_true c8
          have c8b1 : decide (0 ≤ a1) = true := decide_eq_true c8
          clear c8
          obtain ⟨ji9, hji9⟩ : ∃ j_ : Int, (shr .u64 a2 a1) = j_ := ⟨_, rfl⟩
          replace H : (gimbalref01_Put.j0 k l0 a1 a2 ((ji9) != 0)) = some (r1, r2) := by first | (rw [hji9] at H; exact H) | (simp only [hji9] at H ⊢; exact H)
          have hji9_ : (a2 / 2 ^ min a1.toNat 64) = ji9 := hji9
          have hji9z : a1 ≤ 64 → (a2 / 2 ^ a1.toNat) = ji9 := shr_small hji9
          have H' := Aside0.mk H
          clear H
          go_wp2
          go_meet
          case rel => exact ⟨_, (((ji9) != 0)), (by first | rfl | (simp; done) | (simp only [← hji9] <;> (first | rfl | simp)) | (simp [*]; done)), H', ⟨by first | omega | exact Nat.le_refl _⟩, ⟨by repeat (first | (with_reducible first | exact HB.out | apply below_alloc | apply pw_below_drewN | apply below_drew1) | exact HB.out)⟩⟩
        · rw [if_neg c8] at H
          exact absurd H (by simp)
      · rw [if_neg c7] at H
        have c7b0 : decide (a1 < 64) = false := decide_eq_false c7
        clear c7
        (first | rw [c7b0] | (simp only [i64_w, i32_w]; rw [c7b0]) | skip)
        have H' := Aside0.mk H
        clear H
        go_wp2
        go_meet
        case rel => exact ⟨_, (false), (by first | rfl | (simp; done) | (simp [*]; done)), H', ⟨by first | omega | exact Nat.le_refl _⟩, ⟨by repeat (first | (with_reducible first | exact HB.out | apply below_alloc | apply pw_below_drewN | apply below_drew1) | exact HB.out)⟩⟩
    case rest =>
      clear HC6
      try clear p2
      try clear c4
      try clear c5
      try clear c6
      try clear c7
      try clear c7b0
      try clear c8
      try clear c8b0
      try clear c8b1
      obtain ⟨kq, x20_5, rfl, HA, HJ5, HB⟩ := hcut
      cases kq with
      | zero => exact absurd HA.out (by simp [gimbalref01_Put.j0])
      | succ kj5 =>
        have H := HA.out
        clear HA
        simp only [gimbalref01_Put.j0] at H
        by_cases c10 : x20_5 = true
        · subst c10
          have H1 : (some (([] : List Int), 9)) = some (r1, r2) := by rw [if_pos rfl] at H; exact H
          clear H
          have H := H1
          clear H1
          simp only [Option.some.injEq, Prod.mk.injEq] at H
          obtain ⟨rfl, rfl⟩ := H
          go_wp2
          go_ret2
          exact ⟨_, by first | rfl | (simp [errW_none, errW_some] <;> rfl) | (simp [*, errW_none, errW_some] <;> rfl), by first | exact Kd.R_nil _ _ _ _ _ | exact Kd.N_nil _ _ _ _ _ | exact Kd.V_nil _ _ _ _ _ | exact Kd.Q_nil _ _ _ _ _ | exact Kd.S_nil _ _ _ _ _, by repeat (first | (with_reducible first | exact HB.out | apply below_alloc | apply pw_below_drewN | apply below_drew1) | exact HB.out)⟩
        · replace c10 := Bool.eq_false_iff.mpr c10
          subst c10
          have H1 : ((gimbalref00_CopyBytes.f l0).bind fun t219 => (gimbalref01_Put.l0 kj5 a2 t219 (wrap64 (a1 - 8)))) = some (r1, r2) := by rw [if_neg (show ¬ (false = true) by decide)] at H; exact H
          clear H
          have H := H1
          clear H1
          replace H := Option.bind_eq_some_iff.mp H
          obtain ⟨t219, A110, H⟩ := H
          replace H : (gimbalref01_Put.l0 kj5 a2 t219 (wrap64 (a1 - 8))) = some (r1, r2) := H
          have A11 := Aside0.mk A110
          clear A110
          have H' := Aside0.mk H
          clear H
          go_wp2_with (first | ((with_reducible refine gate_callee (f := 8) rfl ?_); refine goesL_ (some 22) rfl rfl Tryd.func8 (by kernel_rfl) rfl #[.slice A0 l0.length c0] rfl (by (try simp only [List.map_toArray, List.map_cons, List.map_nil]); first | done | rfl | (simp only [List.length_drop, List.length_take]; rfl)) ?_; (with_reducible refine (gimbalref00_CopyBytes.calls _ _ l0 t219 _ ?side1 ?side2 A11.out).mono ?_); (case side1 => repeat (first | exact (Kd.C_below HR0.out HB.out) | (with_reducible refine Kd.C_alloc ?_ _) | (with_reducible refine Kd.C_drewN ?_ _) | (with_reducible refine Kd.C_drew ?_))); (case side2 => exact HC0.out); rintro e w12 ⟨v220, rfl, ho0, hb⟩; refine ⟨_, rfl, ?_⟩; have n0_ := Aside0.mk (Kd.R_lower ho0 (below_size (by repeat (first | (with_reducible first | exact HB.out | apply below_alloc | apply pw_below_drewN | apply below_drew1) | exact HB.out)))); have n1_ := Aside0.mk (below_step (by repeat (first | (with_reducible first | exact HB.out | apply below_alloc | apply pw_below_drewN | apply below_drew1) | exact HB.out)) hb); clear HB; have HO221 := n0_; have HB := n1_; clear n0_ n1_; (try clear hb); (try clear hb2); (try clear hk); (try clear hi); (try clear ho0)))
          go_loopg [8, 9] kj5 (fun kq v8 v9 w' => ∃ (x8_2 : List Int) (x9_2 : Int), v9 = .int .i64 x9_2 ∧ Aside0 (gimbalref01_Put.l0 kq a2 x8_2 x9_2 = some (r1, r2)) ∧ Aside0 (kq ≤ kj5) ∧ Aside0 (Kd.R (Kd.int .u8) 5 w' w.heap.size (fun _ => True) v8 x8_2) ∧ Aside0 (Below w.heap.size w w'))
          case atStart => exact ⟨(t219), (wrap64 (a1 - 8)), (by first | rfl | (simp; done) | (simp [*]; done)), H', ⟨Nat.le_refl _⟩, ⟨by (with_reducible repeat (first | apply Kd.R_alloc | apply Kd.R_drewN | apply Kd.R_drew)); exact HO221.out⟩, ⟨by repeat (first | (with_reducible first | exact HB.out | apply below_alloc | apply pw_below_drewN | apply below_drew1) | exact HB.out)⟩⟩
          case round =>
            clear H'
            try clear c1
            try clear p2
            try clear c4
            try clear c5
            try clear c6
            try clear p6
            try clear c7
            try clear c7b0
            try clear c8
            try clear c8b0
            try clear c8b1
            try clear c10
            try clear p2
            obtain ⟨x8_2, x9_2, rfl, HA, HK2, HO_8, HB⟩ := hrel
            cases gk with
            | zero => exact absurd HA.out (by simp [gimbalref01_Put.l0])
            | succ k2 =>
              have H := HA.out
              clear HA
              simp only [gimbalref01_Put.l0] at H
              by_cases c13 : x9_2 ≥ 0
              · rw [if_pos c13] at H
                have c13b0 : decide (0 ≤ x9_2) = true := decide_eq_true c13
                clear c13
                by_cases c14 : 0 ≤ x9_2
                · rw [if_pos c14] at H
                  have c14b0 := eq_true c14
                  have c14b1 : decide (0 ≤ x9_2) = true := decide_eq_true c14
                  clear c14
                  obtain ⟨ji15, hji15⟩ : ∃ j_ : Int, (shr .u64 a2 x9_2) = j_ := ⟨_, rfl⟩
                  replace H : (if x8_2.length < 140737488355328 then (gimbalref01_Put.l0 k2 a2 (x8_2 ++ [(ji15) % 256]) (wrap64 (x9_2 - 8))) else (none)) = some (r1, r2) := by first | (rw [hji15] at H; exact H) | (simp only [hji15] at H ⊢; exact H)
                  have hji15_ : (a2 / 2 ^ min x9_2.toNat 64) = ji15 := hji15
                  have hji15z : x9_2 ≤ 64 → (a2 / 2 ^ x9_2.toNat) = ji15 := shr_small hji15
                  by_cases c16 : x8_2.length < 140737488355328
                  · rw [if_pos c16] at H
                    have LMc16 := Aside0.mk c16
                    clear c16
                    obtain ⟨y222, hy222⟩ : ∃ y_ : List Int, y_ = (x8_2 ++ [(ji15) % 256]) := ⟨_, rfl⟩
                    replace H : (gimbalref01_Put.l0 k2 a2 y222 (wrap64 (x9_2 - 8))) = some (r1, r2) := by first | (rw [hy222]; with_reducible exact H) | (have H2_ := (Option.bind_some _ _).symm.trans H; rw [hy222]; with_reducible exact H2_) | (have H2_ := (Option.bind_some _ _).symm.trans H; with_reducible exact H2_) | with_reducible exact H | (rw [hy222]; exact H) | exact H
                    have Ny222 := Aside0.mk hy222
                    clear hy222
                    have H' := Aside0.mk H
                    clear H
                    go_wp2_with (first | ((with_reducible refine gate_builtin (b := .append) (xs := #[.tmp 29, .tmp 34]) rfl ?_); at_builtin; refine Kd.R_append (Kd.int .u8) (w0 := w) w.heap.size rfl (.tmp 29) (.tmp 34) 22 5 (.int .u8 0) 1 rfl Tryd.underlying22 info5 rfl (by decide) (by omega) u8 x8_2 ((ji15) % 256) [.int .u8 ((ji15) % 256)] (fun _ => True) (fun _ => False) rfl rfl ?aP (fun _ hk => hk.elim) ?aF ?aO ?aB ?aS ?aL ?_; (case aP => exact rfl); (case aB => exact (by repeat (first | (with_reducible first | exact HB.out | apply below_alloc | apply pw_below_drewN | apply below_drew1) | exact HB.out))); (case aF => exact (fun _ _ => trivial)); (case aO => exact (by (with_reducible repeat (first | apply Kd.R_alloc | apply Kd.R_drewN | apply Kd.R_drew)); exact HO_8.out)); (case aS => exact (below_size (by repeat (first | (with_reducible first | exact HB.out | apply below_alloc | apply pw_below_drewN | apply below_drew1) | exact HB.out)))); (case aL => have := LMc16.out; omega); intro v223 w17 ho hb hg hat; rw [← Ny222.out] at ho; have n0_ := Aside0.mk (hb); have n1_ := Aside0.mk (ho); clear HB; clear HO_8; have HB := n0_; have HO224 := n1_; clear n0_ n1_; clear ho hb hg hat))
                    go_roundg k2
                    case measure => have := HJ5.out; have := HK2.out; omega
                    case rel => exact ⟨(y222), (wrap64 (x9_2 - 8)), (by first | rfl | (simp; done) | (simp [*]; done)), H', ⟨by have := HJ5.out; have := HK2.out; omega⟩, ⟨by (with_reducible repeat (first | apply Kd.R_alloc | apply Kd.R_drewN | apply Kd.R_drew)); exact HO224.out⟩, ⟨by repeat (first | (with_reducible first | exact HB.out | apply below_alloc | apply pw_below_drewN | apply below_drew1) | exact HB.out)⟩⟩
                  · rw [if_neg c16] at H
                    exact absurd H (by simp)
                · rw [if_neg c14] at H
                  exact absurd H (by simp)
              · rw [if_neg c13] at H
                have c13b0 : decide (0 ≤ x9_2) = false := decide_eq_false c13
                clear c13
                simp only [Option.some.injEq, Prod.mk.injEq] at H
                obtain ⟨rfl, rfl⟩ := H
                go_wp2
                go_ret2
                exact ⟨_, by first | rfl | (simp [errW_none, errW_some] <;> rfl) | (simp [*, errW_none, errW_some] <;> rfl), by (with_reducible repeat (first | apply Kd.R_alloc | apply Kd.R_drewN | apply Kd.R_drew)); exact HO_8.out, by repeat (first | (with_reducible first | exact HB.out | apply below_alloc | apply pw_below_drewN | apply below_drew1) | exact HB.out)⟩
  · replace c5 := Bool.eq_false_iff.mpr c5
    subst c5
    have H1 : (some (([] : List Int), 2)) = some (r1, r2) := by rw [if_neg (show ¬ (false = true) by decide)] at H; exact H
    clear H
    have H := H1
    clear H1
    simp only [Option.some.injEq, Prod.mk.injEq] at H
    obtain ⟨rfl, rfl⟩ := H
    go_enter Tryd.func40, Tryd.ntmps40
    go_wp2_with (first | ((with_reducible refine gate_callee (f := 65) rfl ?_); refine goesL_ (some 11) rfl rfl Tryd.func65 (by kernel_rfl) rfl #[.int .i64 a1] rfl (by (try simp only [List.map_toArray, List.map_cons, List.map_nil]); first | done | rfl | (simp only [List.length_drop, List.length_take]; rfl)) ?_; (with_reducible refine (gimbalref01_sized.calls a1 false _ A4.out).mono ?_); rintro e w' ⟨rfl, ⟨nd, rfl⟩⟩; refine ⟨_, rfl, ?_⟩))
    go_ret2
    exact ⟨_, by first | rfl | (simp [errW_none, errW_some] <;> rfl) | (simp [*, errW_none, errW_some] <;> rfl), by first | exact Kd.R_nil _ _ _ _ _ | exact Kd.N_nil _ _ _ _ _ | exact Kd.V_nil _ _ _ _ _ | exact Kd.Q_nil _ _ _ _ _ | exact Kd.S_nil _ _ _ _ _, by repeat (first | (with_reducible first | exact HB.out | apply below_alloc | apply pw_below_drewN | apply below_drew1) | exact HB.out)⟩
theorem copy_ref (l : List Int) (h : l.length < 140737488355328) : gimbalref00_CopyBytes.f l = some l := by
  unfold gimbalref00_CopyBytes.f
  rw [if_pos (by simpa using h)]
  rfl
theorem varint_l0 : ∀ (j u : Nat) (l : List Int), u < 128 ^ (j + 1) → u < 18446744073709551616 → l.length + j < 140737488355328 → Ev (fun k => gimbalref01_Varint.l0 k (u : Int) l) (l ++ vEnc u)
  | 0, u, l, h1, h2, h3 => by
    refine ⟨1, fun k hk => ?_⟩
    obtain ⟨k, rfl⟩ : ∃ j, k = j + 1 := ⟨k - 1, by omega⟩
    show gimbalref01_Varint.l0 (k + 1) (u : Int) l = _
    have h1 : u < 128 := by simpa using h1
    rw [gimbalref01_Varint.l0, if_neg (by omega), if_pos (by omega), vEnc_lo u h1]
    have e : (u : Int) % 256 = u := by omega
    rw [e]
  | j + 1, u, l, h1, h2, h3 => by
    by_cases hu : u < 128
    · refine ⟨1, fun k hk => ?_⟩
      obtain ⟨k, rfl⟩ : ∃ j, k = j + 1 := ⟨k - 1, by omega⟩
      show gimbalref01_Varint.l0 (k + 1) (u : Int) l = _
      rw [gimbalref01_Varint.l0, if_neg (by omega), if_pos (by omega), vEnc_lo u hu]
      have e : (u : Int) % 256 = u := by omega
      rw [e]
    · have ih := varint_l0 j (u / 128) (l ++ [((u % 128 + 128 : Nat) : Int)]) (by rw [Nat.div_lt_iff_lt_mul (by omega)]; rw [Nat.pow_succ] at h1; omega) (by omega) (by rw [List.length_append]; simp; omega)
      refine Ev.step ih (fun k hk => ?_)
      have e1 : IntKind.u64.wrap (Int.tdiv (u : Int) 128) = ((u / 128 : Nat) : Int) := by
        rw [Int.tdiv_eq_ediv_of_nonneg (by omega), wrap_u64 _ (by omega) (by omega)]
        omega
      have e2 : (IntKind.u64.wrap ((Int.tmod (u : Int) 128) + 128)) % 256 = ((u % 128 + 128 : Nat) : Int) := by
        rw [Int.tmod_eq_emod_of_nonneg (by omega), wrap_u64 _ (by omega) (by omega)]
        omega
      rw [gimbalref01_Varint.l0, if_pos (by omega), if_pos (by omega), e1, e2, hk, vEnc_hi u hu]
      simp
theorem varint_ref (l : List Int) (u : Nat) (hl : l.length + 10 < 140737488355328) (hu : u < 18446744073709551616) : Ev (fun k => gimbalref01_Varint.f k l (u : Int)) (l ++ vEnc u) := by
  obtain ⟨K, h⟩ := varint_l0 9 u l (by
    have : (128 : Nat) ^ (9 + 1) = 1180591620717411303424 := by decide
    omega) hu (by omega)
  refine ⟨K, fun k hk => ?_⟩
  show gimbalref01_Varint.f k l (u : Int) = _
  unfold gimbalref01_Varint.f
  rw [copy_ref l (by omega), Option.bind_some]
  exact h k hk
theorem text_ref (l s : List Int) (hl : l.length + s.length + 10 < 140737488355328) : Ev (fun k => gimbalref01_Text.f k l s) (l ++ (vEnc s.length ++ s)) := by
  obtain ⟨K, h⟩ := varint_ref l s.length (by omega) (by omega)
  refine ⟨K, fun k hk => ?_⟩
  have h1 : gimbalref01_Varint.f k l (s.length : Int) = _ := h k hk
  have e := vEnc_ten s.length (by omega)
  show gimbalref01_Text.f k l s = _
  unfold gimbalref01_Text.f
  rw [wrap_u64_nat s.length (by omega), h1, Option.bind_some, if_pos (by rw [List.length_append]; omega), List.append_assoc]
theorem zig_ref (n : Int) (hw : I64 n) : gimbalref01_Zig.f n = some (zig n : Int) := by
  have h0 := hw.1
  have h1 := hw.2
  unfold gimbalref01_Zig.f zig
  by_cases h : n < 0
  · rw [if_pos h, if_pos h, wrap64_in (show -9223372036854775808 ≤ n + 1 by omega) (by omega), wrap64_in (by omega) (by omega), wrap_u64 (-(n + 1)) (by omega) (by omega), wrap_u64 (2 * -(n + 1)) (by omega) (by omega), wrap_u64 _ (by omega) (by omega)]
    congr 1
    omega
  · rw [if_neg h, if_neg h, wrap_u64 n (by omega) (by omega), wrap_u64 _ (by omega) (by omega)]
    congr 1
    omega
theorem int_ref (l : List Int) (n : Int) (hl : l.length + 10 < 140737488355328) (hw : I64 n) : Ev (fun k => gimbalref01_Int.f k l n) (l ++ vEnc (zig n)) := by
  obtain ⟨K, h⟩ := varint_ref l (zig n) hl (zig_lt n hw.1 hw.2)
  refine ⟨K, fun k hk => ?_⟩
  have h1 : gimbalref01_Varint.f k l (zig n : Int) = _ := h k hk
  show gimbalref01_Int.f k l n = _
  unfold gimbalref01_Int.f
  rw [zig_ref n hw, Option.bind_some, h1, Option.bind_some]
theorem ref_Varint (w : World) (A : Option Addr) (c : Nat) (l : List Int) (u : Nat) (hC : Kd.C (Kd.int .u8) w A l.length l) (hc : l.length ≤ c) (hl : l.length + 10 < 140737488355328) (hu : u < 18446744073709551616) :
    Calls Tryd.prog 77 #[.slice A l.length c, .int .u64 (u : Int)] w fun en w' => ∃ v, en = .returned v ∧ Kd.R (Kd.int .u8) 5 w' w.heap.size (fun _ => True) v (l ++ vEnc u) ∧ Below w.heap.size w w' := by
  obtain ⟨k, hk⟩ := (varint_ref l u hl hu).some
  exact gimbalref01_Varint.calls k A c l (u : Int) _ w hC hc hk
theorem ref_Text (w : World) (A : Option Addr) (c : Nat) (l : List Int) (A2 : Option Addr) (c2 : Nat) (s : List Int) (hC : Kd.C (Kd.int .u8) w A l.length l) (hc : l.length ≤ c) (hC2 : Kd.C (Kd.int .u8) w A2 s.length s) (hc2 : s.length ≤ c2) (hl : l.length + s.length + 10 < 140737488355328) :
    Calls Tryd.prog 80 #[.slice A l.length c, .slice A2 s.length c2] w fun en w' => ∃ v, en = .returned v ∧ Kd.R (Kd.int .u8) 5 w' w.heap.size (fun _ => True) v (l ++ (vEnc s.length ++ s)) ∧ Below w.heap.size w w' := by
  obtain ⟨k, hk⟩ := (text_ref l s hl).some
  exact gimbalref01_Text.calls k A c l A2 c2 s _ w hC hc hC2 hc2 hk
theorem ref_Int (w : World) (A : Option Addr) (c : Nat) (l : List Int) (n : Int) (hC : Kd.C (Kd.int .u8) w A l.length l) (hc : l.length ≤ c) (hl : l.length + 10 < 140737488355328) (hw : I64 n) :
    Calls Tryd.prog 110 #[.slice A l.length c, .int .i64 n] w fun en w' => ∃ v, en = .returned v ∧ Kd.R (Kd.int .u8) 5 w' w.heap.size (fun _ => True) v (l ++ vEnc (zig n)) ∧ Below w.heap.size w w' := by
  obtain ⟨k, hk⟩ := (int_ref l n hl hw).some
  exact gimbalref01_Int.calls k A c l n _ w hC hc hk
theorem put_shr (K n k : Nat) (hK : K = 1 ∨ K = 2 ∨ K = 4) (h : k < K) : shr .u64 (n : Int) ((8 * K - 8 - 8 * k : Nat) : Int) % 256 = ((n / 256 ^ (K - 1 - k) % 256 : Nat) : Int) := by
  unfold shr
  rw [Int.toNat_natCast]
  exact put_shift K n k hK h
theorem put_l0 (K n : Nat) (hK : K = 1 ∨ K = 2 ∨ K = 4) (l : List Int) (hl : l.length + 10 < 140737488355328) : ∀ d k, k + d = K → ∀ s : Int, s = (8 * K : Int) - 8 - 8 * k → Ev (fun q => gimbalref01_Put.l0 q (n : Int) (l ++ (List.range k).map (fun i => ((n / 256 ^ (K - 1 - i) % 256 : Nat) : Int))) s) (l ++ beB K n, 0)
  | 0, k, h, s, hs => by
    refine ⟨1, fun q hq => ?_⟩
    obtain ⟨q, rfl⟩ : ∃ j, q = j + 1 := ⟨q - 1, by omega⟩
    show gimbalref01_Put.l0 (q + 1) _ _ _ = _
    obtain rfl : k = K := by omega
    rw [gimbalref01_Put.l0, if_neg (by omega)]
    rfl
  | d + 1, k, h, s, hs => by
    have ih := put_l0 K n hK l hl d (k + 1) (by omega) (s - 8) (by omega)
    refine Ev.step ih (fun q hq => ?_)
    have hsn : s = ((8 * K - 8 - 8 * k : Nat) : Int) := by omega
    rw [gimbalref01_Put.l0, if_pos (by omega), if_pos (by omega), if_pos (by rw [List.length_append, List.length_map, List.length_range]; omega)]
    rw [show wrap64 (s - 8) = s - 8 by rw [wrap64_in (by omega) (by omega)]]
    rw [hsn, put_shr K n k hK (by omega), ← hsn]
    rw [beB_lo K n k (by omega)] at hq
    rw [← List.append_assoc] at hq
    exact hq
theorem put_ref (K : Nat) (hK : K = 1 ∨ K = 2 ∨ K = 4) (l : List Int) (n : Nat) (hl : l.length + 10 < 140737488355328) (hn : n < 256 ^ K) (s : Int) (hs : s = ((8 * K : Nat) : Int)) : Ev (fun k => gimbalref01_Put.f k l s (n : Int)) (l ++ beB K n, 0) := by
  have h0 := put_l0 K n hK l hl K 0 (by omega) (s - 8) (by omega)
  have hsz : gimbalref01_sized.f s = some true := by
    rcases hK with rfl | rfl | rfl <;> (subst hs; decide)
  have hsh : shr .u64 (n : Int) s = 0 := by
    unfold shr
    rcases hK with rfl | rfl | rfl
    · have : n < 256 := by simpa using hn
      subst hs
      show (n : Int) / 256 = 0
      omega
    · have : n < 65536 := by simpa using hn
      subst hs
      show (n : Int) / 65536 = 0
      omega
    · have : n < 4294967296 := by simpa using hn
      subst hs
      show (n : Int) / 4294967296 = 0
      omega
  have h1 : Ev (fun k => gimbalref01_Put.j0 k l s (n : Int) false) (l ++ beB K n, 0) := by
    refine Ev.step h0 (fun k hk => ?_)
    rw [gimbalref01_Put.j0, if_neg (by simp), copy_ref l (by omega), Option.bind_some, show wrap64 (s - 8) = s - 8 by rw [wrap64_in (by omega) (by omega)]]
    simpa using hk
  obtain ⟨K2, h1⟩ := h1
  refine ⟨K2, fun k hk => ?_⟩
  show gimbalref01_Put.f k l s (n : Int) = _
  unfold gimbalref01_Put.f
  rw [hsz, Option.bind_some, if_pos rfl, if_pos (by omega), if_pos (by omega), hsh]
  exact h1 k hk
theorem ref_Put (K : Nat) (hK : K = 1 ∨ K = 2 ∨ K = 4) (w : World) (A : Option Addr) (c : Nat) (l : List Int) (n : Nat) (hC : Kd.C (Kd.int .u8) w A l.length l) (hc : l.length ≤ c) (hl : l.length + 10 < 140737488355328) (hn : n < 256 ^ K) (s : Int) (hs : s = ((8 * K : Nat) : Int)) :
    Calls Tryd.prog 40 #[.slice A l.length c, .int .i64 s, .int .u64 (n : Int)] w fun en w' => ∃ v, en = .returned (.tuple #[v, .int .i64 0]) ∧ Kd.R (Kd.int .u8) 5 w' w.heap.size (fun _ => True) v (l ++ beB K n) ∧ Below w.heap.size w w' := by
  obtain ⟨k, hk⟩ := (put_ref K hK l n hl hn s hs).some
  exact gimbalref01_Put.calls k A c l s (n : Int) _ _ w hC hc hk
end Go.Proofs.YtmeblifbkhpdnaaDoor.K
namespace Go.Proofs.YtmeblifbkhpdnaaDoor.K
set_option linter.unusedVariables false
set_option linter.unusedSimpArgs false
open Go.RowKit Go.Proofs.YtmeblifbkhpdnaaDoorW.PrintWords Go.Proofs.YtmeblifbkhpdnaaDoorW.PrintLast Go.Proofs.YtmeblifbkhpdnaaDoorW.PrintMore
theorem ref_opCheck (w : World) (A : Option Addr) (c : Nat) (o : Opn) (hA : kLine.C w A o.f4.length o.f4) (hc : o.f4.length ≤ c) (hs : ∀ x ∈ o.f4, x.f0.size ≤ 9223372036854775807) (hn : o.f1.size ≤ 9223372036854775807) (hw : I64 o.f3) :
    Calls Tryd.prog 101 #[.agg #[.int .i64 o.f0, .string o.f1, .int .i64 o.f2, .int .i64 o.f3, .slice A o.f4.length c]] w fun en w' => en = .returned (.int .i64 (opE o)) ∧ Below w.heap.size w w' := by
  obtain ⟨k, hk⟩ := (opE_ref o hA.2.1 hs hn hw).some
  exact gimbalref03_Check.calls k o.f0 o.f1 o.f2 o.f3 A c o.f4 _ w hA hc hk
set_option maxHeartbeats 800000 in
theorem ref_sku (w : World) (k : Int) : Calls Tryd.prog 104 #[.int .i64 k] w fun en w' => en = .returned (.bool (iHas k 1)) ∧ w = w' := by
  have H := sku_ref k
  unfold gimbalref03_hasSku.f at H
  by_cases c1 : k = 1
  · rw [if_pos c1] at H
    have b1 : (k == 1) = true := by rw [c1]; rfl
    rw [← Option.some.inj H]
    clear H c1
    go_enter Tryd.func104, Tryd.ntmps104
    go_wp2_with fail
    go_ret
    exact ⟨rfl, rfl⟩
  · rw [if_neg c1] at H
    have b1 : (k == 1) = false := beq_eq_false_iff_ne.2 c1
    by_cases c2 : k = 2
    · rw [if_pos c2] at H
      have b2 : (k == 2) = true := by rw [c2]; rfl
      rw [← Option.some.inj H]
      clear H c1 c2
      go_enter Tryd.func104, Tryd.ntmps104
      go_wp2_with fail
      go_ret
      exact ⟨rfl, rfl⟩
    · rw [if_neg c2] at H
      have b2 : (k == 2) = false := beq_eq_false_iff_ne.2 c2
      rw [← Option.some.inj H]
      clear H c1 c2
      go_enter Tryd.func104, Tryd.ntmps104
      go_wp2_with fail
      go_ret
      exact ⟨rfl, rfl⟩
set_option maxHeartbeats 800000 in
theorem ref_order (w : World) (k : Int) : Calls Tryd.prog 105 #[.int .i64 k] w fun en w' => en = .returned (.bool (iHas k 2)) ∧ w = w' := by
  have H := order_ref k
  unfold gimbalref03_hasOrder.f at H
  have go : ∀ (b1 b2 : Bool), decide (3 ≤ k) = b1 → decide (k ≤ 6) = b2 → (if b1 then (if b2 then true else k == 9) else k == 9) = iHas k 2 → Calls Tryd.prog 105 #[.int .i64 k] w fun en w' => en = .returned (.bool (iHas k 2)) ∧ w = w' := by
    intro b1 b2 h1 h2 h3
    rw [← h3]
    clear h3 H
    cases b1
    · go_enter Tryd.func105, Tryd.ntmps105
      go_wp2_with fail
      go_ret
      exact ⟨rfl, rfl⟩
    · cases b2
      · go_enter Tryd.func105, Tryd.ntmps105
        go_wp2_with fail
        go_ret
        exact ⟨rfl, rfl⟩
      · go_enter Tryd.func105, Tryd.ntmps105
        go_wp2_with fail
        go_ret
        exact ⟨rfl, rfl⟩
  by_cases c1 : k ≥ 3
  · rw [if_pos c1] at H
    by_cases c2 : k ≤ 6
    · rw [if_pos c2] at H
      exact go true true (decide_eq_true c1) (decide_eq_true c2) (by simpa using Option.some.inj H)
    · rw [if_neg c2] at H
      exact go true false (decide_eq_true c1) (decide_eq_false c2) (by simpa using Option.some.inj H)
  · rw [if_neg c1] at H
    exact go false _ (decide_eq_false c1) rfl (by simpa using Option.some.inj H)
set_option maxHeartbeats 800000 in
theorem ref_n (w : World) (k : Int) : Calls Tryd.prog 108 #[.int .i64 k] w fun en w' => en = .returned (.bool (iHas k 4)) ∧ w = w' := by
  have H := n_ref k
  unfold gimbalref03_hasN.f at H
  have go : ∀ (b1 b2 : Bool), decide (1 ≤ k) = b1 → decide (k ≤ 3) = b2 → (if b1 then (if b2 then true else k == 7) else k == 7) = iHas k 4 → Calls Tryd.prog 108 #[.int .i64 k] w fun en w' => en = .returned (.bool (iHas k 4)) ∧ w = w' := by
    intro b1 b2 h1 h2 h3
    rw [← h3]
    clear h3 H
    cases b1
    · go_enter Tryd.func108, Tryd.ntmps108
      go_wp2_with fail
      go_ret
      exact ⟨rfl, rfl⟩
    · cases b2
      · go_enter Tryd.func108, Tryd.ntmps108
        go_wp2_with fail
        go_ret
        exact ⟨rfl, rfl⟩
      · go_enter Tryd.func108, Tryd.ntmps108
        go_wp2_with fail
        go_ret
        exact ⟨rfl, rfl⟩
  by_cases c1 : k ≥ 1
  · rw [if_pos c1] at H
    by_cases c2 : k ≤ 3
    · rw [if_pos c2] at H
      exact go true true (decide_eq_true c1) (decide_eq_true c2) (by simpa using Option.some.inj H)
    · rw [if_neg c2] at H
      exact go true false (decide_eq_true c1) (decide_eq_false c2) (by simpa using Option.some.inj H)
  · rw [if_neg c1] at H
    exact go false _ (decide_eq_false c1) rfl (by simpa using Option.some.inj H)
theorem ref_text_str (w : World) (A : Option Addr) (c : Nat) (l : List Int) (s : ByteArray) (hC : Kd.C (Kd.int .u8) w A l.length l) (hc : l.length ≤ c) (hl : l.length + s.size + 10 < 140737488355328) :
    Calls Tryd.prog 80 #[.slice A l.length c, .slice (some ⟨w.heap.size, 0, none⟩) s.size (grownCap w s.size 0 5)] (Lib.bytesWorld w 5 s) fun en w' => ∃ v, en = .returned v ∧ Kd.R (Kd.int .u8) 5 w' w.heap.size (fun _ => True) v (l ++ (vEnc s.size ++ sB s)) ∧ Below w.heap.size w w' := by
  have hB := Joins.below_bytesWorld w.heap.size w 5 s (Nat.le_refl _)
  have HH := ref_Text (Lib.bytesWorld w 5 s) A c l (some ⟨w.heap.size, 0, none⟩) (grownCap w s.size 0 5) (sB s) (Kd.C_below hC hB) hc (sB_C w s (by omega)) (by rw [sB_len]; exact grownCap_ge _ _ _ _) (by rw [sB_len]; exact hl)
  rw [sB_len] at HH
  refine HH.mono ?_
  rintro en w' ⟨v, rfl, hv, hb⟩
  exact ⟨v, rfl, Kd.R_lower hv hB.size, hB.trans (hb.mono hB.size)⟩
abbrev LpS (w0 : World) (b : Nat) (v : Value) (p0 p1 : Addr) (s : ByteArray) (n : Int) (W : World) : Prop :=
  W.cell? ⟨b, 4, none⟩ = some v ∧ W.cell? p0 = some (.string s) ∧ W.cell? p1 = some (.int .i64 n) ∧ Aside0 (Below w0.heap.size w0 W)
theorem LpS.next {w0 W W' : World} {b : Nat} {v : Value} {p0 p1 : Addr} {s : ByteArray} {n : Int} (h : LpS w0 b v p0 p1 s n W) (hb : Below W.heap.size W W') : LpS w0 b v p0 p1 s n W' := by
  obtain ⟨h0, h1, h2, h3⟩ := h
  exact ⟨(hb.cell (cell_blk h0)).trans h0, (hb.cell (cell_blk h1)).trans h1, (hb.cell (cell_blk h2)).trans h2, ⟨h3.out.trans (hb.mono h3.out.size)⟩⟩
theorem LpS.drew {w0 W : World} {b : Nat} {v : Value} {p0 p1 : Addr} {s : ByteArray} {n : Int} (h : LpS w0 b v p0 p1 s n W) : LpS w0 b v p0 p1 s n W.drew := h.next (Below.refl _ _ |>.drew)
theorem LpS.bytes {w0 W : World} {b : Nat} {v : Value} {p0 p1 : Addr} {s : ByteArray} {n : Int} (h : LpS w0 b v p0 p1 s n W) (t : TypeId) (s2 : ByteArray) : LpS w0 b v p0 p1 s n (Lib.bytesWorld W t s2) := h.next (Joins.below_bytesWorld _ _ _ _ (Nat.le_refl _))
theorem all_nil {l : List Line} (h : l.length = 0) : l = [] := List.eq_nil_of_length_eq_zero h
set_option maxRecDepth 20000 in
set_option maxHeartbeats 1000000 in
theorem ref_opBytes (w : World) (A : Option Addr) (c : Nat) (o : Opn) (hA : kLine.C w A o.f4.length o.f4) (hc : o.f4.length ≤ c) (hw : I64 o.f3) (hz : ∀ x ∈ o.f4, x.f0.size ≤ 9223372036854775807) (hn : o.f1.size ≤ 9223372036854775807) :
    Calls Tryd.prog 94 #[.agg #[.int .i64 o.f0, .string o.f1, .int .i64 o.f2, .int .i64 o.f3, .slice A o.f4.length c]] w fun en w' => ∃ v, en = .returned (.tuple #[v, .int .i64 (opE o)]) ∧ Kd.R (Kd.int .u8) 5 w' w.heap.size (fun _ => True) v (opR o) ∧ Below w.heap.size w w' := by
  have HA := Aside0.mk hA
  have HC := Aside0.mk hc
  have HW64 := Aside0.mk hw
  have HQ := Aside0.mk (OpS.made w o.f0 o.f1 o.f2 o.f3 (.slice A o.f4.length c) 36)
  have HCK := fun W (h : OpS w w.heap.size o.f0 o.f1 o.f2 o.f3 (.slice A o.f4.length c) W) => ref_opCheck W A c o (Kd.C_below hA h.low) hc hz hn hw
  clear hA hc hw hz hn
  go_enter Tryd.func94, Tryd.ntmps94
  go_wp2_with fail
  refine (HCK _ HQ.out).mono ?_
  rintro en w1 ⟨rfl, hb⟩
  have hS := HQ.out.next hb
  have HB := Aside0.mk hS.low
  clear hb
  have hE : opE o = if opOk o then 0 else 2 := rfl
  have hR : opR o = if opOk o then opB o else [] := rfl
  cases hok : opOk o
  · rw [hok] at hE hR
    simp only [Bool.false_eq_true, if_false] at hE hR
    have HE := Aside0.mk hE
    rw [hE]
    clear hS HCK
    have HR := Aside0.mk hR
    clear hR hE
    go_wp2_with fail
    go_ret2
    exact ⟨.slice none 0 0, by rw [HE.out]; rfl, by rw [HR.out]; exact Kd.R_nil _ _ _ _ _, HB.out⟩
  · rw [hok] at hE hR
    simp only [if_true] at hE hR
    rw [hE]
    have HR := Aside0.mk hR
    have HE0 := Aside0.mk hE
    clear hR hE
    obtain ⟨p0, p1, p2, p3, p4⟩ := opOk_parts o hok
    have hO : Kd.R (Kd.int .u8) 5 (w1.alloc (.cells #[.int .u8 (o.f0 % 256)] 5)) w.heap.size (fun _ => True) (.slice (some ⟨w1.heap.size, 0, none⟩) 1 1) [o.f0 % 256] := one_lit _ _ _ _ HB.out.size
    have HO := Aside0.mk hO
    have hS2 := hS.next (below_alloc (Below.refl _ w1) (.cells #[.int .u8 (o.f0 % 256)] 5))
    have HS := Aside0.mk hS2
    clear hO
    go_upto_if 18 with (first | (go_at_call 104; refine (ref_sku _ o.f0).mono ?_; rintro e w' ⟨rfl, rfl⟩))
    clear hS
    generalize w1.alloc (.cells #[.int .u8 (o.f0 % 256)] 5) = W1 at *
    go_cut [5] (fun s5 wx => ∃ row, Aside0 (row = [o.f0 % 256] ++ (if iHas o.f0 1 then vEnc o.f1.size ++ sB o.f1 else [])) ∧ Aside0 (Kd.R (Kd.int .u8) 5 wx w.heap.size (fun _ => True) s5 row) ∧ OpS w w.heap.size o.f0 o.f1 o.f2 o.f3 (.slice A o.f4.length c) wx)
    case first =>
      cases h1 : iHas o.f0 1
      · go_wp2_with fail
        go_meet
        exact ⟨[o.f0 % 256], ⟨by simp [h1]⟩, HO, HS.out⟩
      · obtain ⟨A1, c1, e1, hc1, hr1⟩ := R_C HO.out
        cases e1
        have hcv := Lib.run_convert_string_bytes (P := Tryd.prog) W1 9 22 5 o.f1 Tryd.underlying9 Tryd.underlying22 Tryd.underlying5
        have HT := Aside0.mk (ref_text_str W1 _ 1 [o.f0 % 256] o.f1 hr1 hc1 (by have := nameOk_size _ (may_on p1 h1); simp only [List.length_cons, List.length_nil]; omega))
        obtain ⟨hs0, hs1, hs2, hs3, hs4, _⟩ := hS2
        go_wp2_with (first | (go_at_call 80; refine HT.out.mono ?_; rintro e w' ⟨v, rfl, hv, hb⟩))
        go_meet
        exact ⟨_, ⟨by rw [h1]; rfl⟩, ⟨Kd.R_lower hv HS.out.low.size⟩, HS.out.next hb⟩
    case rest =>
      clear hS2 HS HO HB
      obtain ⟨row1, HR1, HO1, hS1⟩ := hcut
      have HS1 := Aside0.mk hS1
      obtain ⟨hs0, hs1, hs2, hs3, hs4, _⟩ := hS1
      go_upto_if 26 with (first | (go_at_call 105; refine (ref_order _ o.f0).mono ?_; rintro e w' ⟨rfl, rfl⟩))
      have hlen1 : row1.length ≤ 19 := by
        rw [HR1.out]
        cases h1 : iHas o.f0 1
        · simp
        · have e1 := nameOk_size _ (may_on p1 h1)
          have e2 := vEnc_ten o.f1.size (by omega)
          simp only [if_true, List.length_append, List.length_cons, List.length_nil, sB_len]
          omega
      have HL1 := Aside0.mk hlen1
      clear hlen1
      go_cut [5] (fun s5 wx => ∃ row, Aside0 (row = row1 ++ (if iHas o.f0 2 then vEnc o.f2.toNat else [])) ∧ Aside0 (row.length ≤ 29) ∧ Aside0 (Kd.R (Kd.int .u8) 5 wx w.heap.size (fun _ => True) s5 row) ∧ OpS w w.heap.size o.f0 o.f1 o.f2 o.f3 (.slice A o.f4.length c) wx)
      case first =>
        cases h2 : iHas o.f0 2
        · go_wp2_with fail
          go_meet
          exact ⟨row1, ⟨by simp [h2]⟩, ⟨by have := HL1.out; omega⟩, HO1, HS1.out⟩
        · have hq := (qty_iff _).1 (may_on p2 h2)
          have hwn : IntKind.u64.wrap o.f2 = o.f2 := wrap_u64 _ (by omega) (by omega)
          obtain ⟨A1, c1, e1, hc1, hr1⟩ := R_C HO1.out
          cases e1
          have HT := ref_Varint _ _ c1 row1 o.f2.toNat hr1 hc1 (by have := HL1.out; omega) (by omega)
          rw [Int.toNat_of_nonneg (by omega)] at HT
          have HT2 := Aside0.mk HT
          clear HT hq
          go_wp2_with (first | (go_at_call 77; refine HT2.out.mono ?_; rintro e w' ⟨v, rfl, hv, hb⟩))
          go_meet
          exact ⟨_, ⟨by rw [h2]; rfl⟩, ⟨by have h := HL1.out; have h3 := vEnc_ten o.f2.toNat (by have := (qty_iff _).1 (may_on p2 h2); omega); simp only [if_true, List.length_append]; omega⟩, ⟨Kd.R_lower hv HS1.out.low.size⟩, HS1.out.next hb⟩
      case rest =>
        clear hs0 hs1 hs2 hs3 hs4 HS1 HO1
        obtain ⟨row2, HR2, HL2, HO2, hS2⟩ := hcut
        have HS2 := Aside0.mk hS2
        obtain ⟨hs0, hs1, hs2, hs3, hs4, _⟩ := hS2
        go_upto_if 34 with fail
        go_cut [5] (fun s5 wx => ∃ row, Aside0 (row = row2 ++ (if iHas o.f0 8 then vEnc (zig o.f3) else if iHas o.f0 4 then vEnc o.f3.toNat else [])) ∧ Aside0 (row.length ≤ 39) ∧ Aside0 (Kd.R (Kd.int .u8) 5 wx w.heap.size (fun _ => True) s5 row) ∧ OpS w w.heap.size o.f0 o.f1 o.f2 o.f3 (.slice A o.f4.length c) wx)
        case first =>
          have e8 := has8 o.f0
          cases h8 : iHas o.f0 8
          · have hb8 : (o.f0 == 2) = false := by rw [h8] at e8; rw [beqd]; exact e8.symm
            clear e8
            cases h4 : iHas o.f0 4
            · go_wp2_with (first | (go_at_call 108; refine (ref_n _ o.f0).mono ?_; rintro e w' ⟨rfl, rfl⟩))
              go_meet
              exact ⟨row2, ⟨by simp [h8, h4]⟩, ⟨by have := HL2.out; omega⟩, HO2, HS2.out⟩
            · have hq : 1 ≤ o.f3 ∧ o.f3 ≤ 2147483647 := by
                have h := may_on p3 h4
                unfold opN at h
                rw [h8] at h
                exact (qty_iff _).1 (by simpa using h)
              have HQ3 := Aside0.mk hq
              have hwn : IntKind.u64.wrap o.f3 = o.f3 := wrap_u64 _ (by omega) (by omega)
              obtain ⟨A1, c1, e1, hc1, hr1⟩ := R_C HO2.out
              cases e1
              have HT := ref_Varint _ _ c1 row2 o.f3.toNat hr1 hc1 (by have := HL2.out; omega) (by omega)
              rw [Int.toNat_of_nonneg (by omega)] at HT
              have HT2 := Aside0.mk HT
              clear HT hq
              go_wp2_with (first | (go_at_call 108; refine (ref_n _ o.f0).mono ?_; rintro e w' ⟨rfl, rfl⟩) | (go_at_call 77; refine HT2.out.mono ?_; rintro e w' ⟨v, rfl, hv, hb⟩))
              go_meet
              exact ⟨_, ⟨by rw [h8, h4]; rfl⟩, ⟨by have h := HL2.out; have h3 := vEnc_ten o.f3.toNat (by have := HQ3.out; omega); simp only [Bool.false_eq_true, if_true, if_false, List.length_append]; omega⟩, ⟨Kd.R_lower hv HS2.out.low.size⟩, HS2.out.next hb⟩
          · have hb8 : (o.f0 == 2) = true := by rw [h8] at e8; rw [beqd]; exact e8.symm
            clear e8
            obtain ⟨A1, c1, e1, hc1, hr1⟩ := R_C HO2.out
            cases e1
            have HT2 := Aside0.mk (ref_Int _ _ c1 row2 o.f3 hr1 hc1 (by have := HL2.out; omega) HW64.out)
            go_wp2_with (first | (go_at_call 110; refine HT2.out.mono ?_; rintro e w' ⟨v, rfl, hv, hb⟩))
            go_meet
            exact ⟨_, ⟨by rw [h8]; rfl⟩, ⟨by have h := HL2.out; have h3 := vEnc_ten (zig o.f3) (zig_lt _ HW64.out.1 HW64.out.2); simp only [if_true, List.length_append]; omega⟩, ⟨Kd.R_lower hv HS2.out.low.size⟩, HS2.out.next hb⟩
        case rest =>
          clear hs0 hs1 hs2 hs3 hs4 HS2 HO2
          obtain ⟨row3, HR3, HL3, HO3, hS3⟩ := hcut
          have HS3 := Aside0.mk hS3
          obtain ⟨hs0, hs1, hs2, hs3, hs4, _⟩ := hS3
          have HRo := Aside0.mk (HR.out.trans (opB_rows o row1 row2 row3 HR1.out HR2.out HR3.out))
          clear HR HR1 HR2 HR3
          obtain ⟨lf0, lf2⟩ : o.f4.all lineOk = true ∧ o.f4.length ≤ 4 := by
            cases h16 : iHas o.f0 16
            · have h := may_off p4 h16
              have h0 : o.f4.length = 0 := by simpa using h
              rw [all_nil h0]
              exact ⟨rfl, by simp⟩
            · obtain ⟨lf0, lf1, lf2, _⟩ := lines_facts o.f4 (may_on p4 h16)
              exact ⟨lf0, lf2⟩
          have HLF := Aside0.mk lf0
          have HLF2 := Aside0.mk lf2
          have HRE : Aside0 (opB o = row3 ++ (if iHas o.f0 16 then vEnc o.f4.length else []) ++ o.f4.flatMap lineB) := ⟨by
            have h := HRo.out
            unfold opR at h
            rw [hok, if_pos rfl] at h
            rw [h]
            cases h16 : iHas o.f0 16
            · have h := may_off p4 h16
              have h0 : o.f4.length = 0 := by simpa using h
              rw [all_nil h0]
              simp
            · simp⟩
          clear lf0 lf2
          go_upto_if 49 with fail
          go_cut [5] (fun s5 wx => ∃ row, Aside0 (row = row3 ++ (if iHas o.f0 16 then vEnc o.f4.length else [])) ∧ Aside0 (row.length ≤ 49) ∧ Aside0 (Kd.R (Kd.int .u8) 5 wx w.heap.size (fun _ => True) s5 row) ∧ OpS w w.heap.size o.f0 o.f1 o.f2 o.f3 (.slice A o.f4.length c) wx)
          case first =>
            have e16 := has16 o.f0
            cases h16 : iHas o.f0 16
            · have hb16 : (o.f0 == 3) = false := by rw [h16] at e16; rw [beqd]; exact e16.symm
              clear e16
              go_wp2_with fail
              go_meet
              exact ⟨row3, ⟨by simp [h16]⟩, ⟨by have := HL3.out; omega⟩, HO3, HS3.out⟩
            · have hb16 : (o.f0 == 3) = true := by rw [h16] at e16; rw [beqd]; exact e16.symm
              clear e16
              obtain ⟨A1, c1, e1, hc1, hr1⟩ := R_C HO3.out
              cases e1
              have hwn := wrap_u64_nat o.f4.length (by have := HLF2.out; omega)
              have HT2 := Aside0.mk (ref_Varint _ _ c1 row3 o.f4.length hr1 hc1 (by have := HL3.out; omega) (by have := HLF2.out; omega))
              go_wp2_with (first | (go_at_call 77; refine HT2.out.mono ?_; rintro e w' ⟨v, rfl, hv, hb⟩))
              go_meet
              exact ⟨_, ⟨by rw [h16]; rfl⟩, ⟨by have h := HL3.out; have h3 := vEnc_ten o.f4.length (by have := HLF2.out; omega); simp only [if_true, List.length_append]; omega⟩, ⟨Kd.R_lower hv HS3.out.low.size⟩, HS3.out.next hb⟩
          case rest =>
            clear hs0 hs1 hs2 hs3 hs4 HS3 HO3 p0 p1 p2 p3 p4 HRo
            obtain ⟨row4, HR4, HL4, HO4, hS4⟩ := hcut
            have HS4 := Aside0.mk hS4
            clear hS4
            have HLM : Aside0 (o.f4.length ≤ maxLen) := ⟨HA.out.2.1⟩
            go_wp2_with fail
            go_loopw [5, 6] (fun s5 v wr => ∃ (k : Nat) (row : List Int), k ≤ o.f4.length ∧ v = .int .i64 k ∧ Aside0 (row = row4 ++ (o.f4.take k).flatMap lineB) ∧ Aside0 (row.length ≤ 49 + 28 * k) ∧ Aside0 (Kd.R (Kd.int .u8) 5 wr w.heap.size (fun _ => True) s5 row) ∧ Aside0 (OpS w w.heap.size o.f0 o.f1 o.f2 o.f3 (.slice A o.f4.length c) wr)) (fun _ v _ => o.f4.length - (intOf v).toNat)
            case atStart => exact ⟨0, _, by omega, rfl, ⟨by simp⟩, ⟨by have h := HL4.out; omega⟩, HO4, HS4⟩
            case round =>
              clear HO4 HS4
              obtain ⟨k, row, hk, rfl, HRW, HRL, HO5, HS5⟩ := hrel
              have HB5 := Aside0.mk HS5.out.low
              have hq4 : wr.cell? ⟨w.heap.size, 4, none⟩ = some (.slice A o.f4.length c) := HS5.out.2.2.2.2.1
              by_cases hlt : k < o.f4.length
              · have hb : decide ((k : Int) < (o.f4.length : Int)) = true := by simp; omega
                obtain ⟨ad, e1, hc0, hc1⟩ := at_T118 HA.out (k : Int) (by omega) (by omega)
                cases e1
                rw [rd_T_at o.f4 k hlt] at hc0 hc1
                replace hc0 := (HB5.out.cell (cell_blk hc0)).trans hc0
                replace hc1 := (HB5.out.cell (cell_blk hc1)).trans hc1
                rw [Int.toNat_natCast] at hc0 hc1
                have hx := List.all_eq_true.1 HLF.out _ (List.getElem_mem hlt)
                have HT := Aside0.mk (take_snoc o.f4 k hlt)
                generalize o.f4[k] = x at *
                have HX := Aside0.mk hx
                clear hx
                obtain ⟨A1, c1, e1, hc1', hr1⟩ := R_C HO5.out
                cases e1
                have HR1 := Aside0.mk hr1
                have HC1 := Aside0.mk hc1'
                clear hr1 hc1'
                have hlx : lineOk x = (nameOk x.f0 && qty x.f1) := rfl
                obtain ⟨hx1, hx2⟩ : nameOk x.f0 = true ∧ qty x.f1 = true := by have := HX.out; rw [hlx] at this; simpa using this
                have hx3 := nameOk_size _ hx1
                have hx4 := (qty_iff _).1 hx2
                have hwn : IntKind.u64.wrap x.f1 = x.f1 := wrap_u64 _ (by omega) (by omega)
                have HLX := Aside0.mk (lineB_len x HX.out)
                obtain ⟨row2, hrow2⟩ : ∃ r, r = row ++ (vEnc x.f0.size ++ sB x.f0) := ⟨_, rfl⟩
                have hl2 : row2.length ≤ 49 + 28 * 4 + 18 := by
                  have h1 := HRL.out
                  have h2 := HLF2.out
                  have h3 := vEnc_ten x.f0.size (by omega)
                  rw [hrow2, List.length_append, List.length_append, sB_len]
                  omega
                have hcv := fun W => Lib.run_convert_string_bytes (P := Tryd.prog) W 9 22 5 x.f0 Tryd.underlying9 Tryd.underlying22 Tryd.underlying5
                have HTX : ∀ X : World, Below wr.heap.size wr X → Calls Tryd.prog 80 #[.slice A1 row.length c1, .slice (some ⟨X.heap.size, 0, none⟩) x.f0.size (grownCap X x.f0.size 0 5)] (Lib.bytesWorld X 5 x.f0) fun en w' => ∃ v, en = .returned v ∧ Kd.R (Kd.int .u8) 5 w' X.heap.size (fun _ => True) v row2 ∧ Below X.heap.size X w' := fun X h => by
                  rw [hrow2]
                  exact ref_text_str X A1 c1 row x.f0 (Kd.C_below HR1.out h) HC1.out (by have h1 := HRL.out; have h2 := HLF2.out; omega)
                have HNM : ∀ (W' : World) (A2 : Option Addr) (c2 : Nat), Kd.C (Kd.int .u8) W' A2 row2.length row2 → row2.length ≤ c2 → Calls Tryd.prog 77 #[.slice A2 row2.length c2, .int .u64 x.f1] W' fun en w' => ∃ v, en = .returned v ∧ Kd.R (Kd.int .u8) 5 w' W'.heap.size (fun _ => True) v (row2 ++ vEnc x.f1.toNat) ∧ Below W'.heap.size W' w' := fun W' A2 c2 h1 h2 => by
                  have := ref_Varint W' A2 c2 row2 x.f1.toNat h1 h2 (by omega) (by omega)
                  rwa [Int.toNat_of_nonneg (by omega)] at this
                have HROW2 := Aside0.mk hrow2
                have HL2' := Aside0.mk hl2
                have hin : k < o.f4.length := hlt
                clear hx1 hx2 hx3 hx4 hl2 hrow2 hlx
                go_upto_region 18 with fail
                have hln : LpS wr w.heap.size (.slice (some ad) o.f4.length c) (ad.add (k * 2)) ⟨(ad.add (k * 2)).block, (ad.add (k * 2)).off + 1, none⟩ x.f0 x.f1 wr := ⟨hq4, hc0, hc1, ⟨Below.refl _ _⟩⟩
                clear hq4 hc0 hc1
                refine wp_region_held_drew (S := fun w' => LpS wr w.heap.size (.slice (some ad) o.f4.length c) (ad.add (k * 2)) ⟨(ad.add (k * 2)).block, (ad.add (k * 2)).off + 1, none⟩ x.f0 x.f1 w') (by kernel_rfl) hln.drew (fun hHeld => ?_)
                refine takeH (i := 0) (some 63) (v := ?_) rfl rfl (by kernel_rfl) (by kernel_rfl) (by kernel_rfl) (fun _ _ _ h => h) (Or.inl ⟨by kernel_rfl, ?_⟩) (by assumption) ?_
                rotate_left
                · (rintro w' ⟨s0, s1, s2, s3⟩; go_simp; first | done | with_reducible rfl)
                simp only [Act.put, List.setIfInBounds_toArray, List.set_cons_zero, List.set_cons_succ]
                refine takeH (i := 1) (some 64) (v := ?_) rfl rfl (by kernel_rfl) (by kernel_rfl) (by kernel_rfl) (fun _ _ _ h => h) (Or.inl ⟨by kernel_rfl, ?_⟩) (by assumption) ?_
                rotate_left
                · (rintro w' ⟨s0, s1, s2, s3⟩; go_simp; first | done | with_reducible rfl)
                simp only [Act.put, List.setIfInBounds_toArray, List.set_cons_zero, List.set_cons_succ]
                refine takeH (i := 2) (some 65) (v := ?_) rfl rfl (by kernel_rfl) (by kernel_rfl) (by kernel_rfl) (fun _ _ _ h => h) (Or.inl ⟨by kernel_rfl, ?_⟩) (by assumption) ?_
                rotate_left
                · (rintro w' ⟨s0, s1, s2, s3⟩; go_simp; first | done | with_reducible rfl)
                simp only [Act.put, List.setIfInBounds_toArray, List.set_cons_zero, List.set_cons_succ]
                refine takeH (i := 3) (some 66) (v := ?_) rfl rfl (by kernel_rfl) (by kernel_rfl) (by kernel_rfl) (fun _ _ _ h => h) (Or.inl ⟨by kernel_rfl, ?_⟩) (by assumption) ?_
                rotate_left
                · (rintro w' ⟨s0, s1, s2, s3⟩; go_simp; first | done | with_reducible rfl)
                simp only [Act.put, List.setIfInBounds_toArray, List.set_cons_zero, List.set_cons_succ]
                refine takeH (i := 4) (some 67) (v := ?_) rfl rfl (by kernel_rfl) (by kernel_rfl) (by kernel_rfl) (fun _ _ _ h => h) (Or.inl ⟨by kernel_rfl, ?_⟩) (by assumption) ?_
                rotate_left
                · (rintro w' ⟨s0, s1, s2, s3⟩; go_simp; first | done | with_reducible rfl)
                simp only [Act.put, List.setIfInBounds_toArray, List.set_cons_zero, List.set_cons_succ]
                refine takeH (i := 5) (some 68) (v := ?_) rfl rfl (by kernel_rfl) (by kernel_rfl) (by kernel_rfl) (fun _ _ _ h => h) (Or.inl ⟨by kernel_rfl, ?_⟩) (by assumption) ?_
                rotate_left
                · (rintro w' ⟨s0, s1, s2, s3⟩; go_simp; first | done | with_reducible rfl)
                simp only [Act.put, List.setIfInBounds_toArray, List.set_cons_zero, List.set_cons_succ]
                refine takeH (i := 6) (some 69) (v := ?_) rfl rfl (by kernel_rfl) (by kernel_rfl) (by kernel_rfl) (fun _ _ _ h => h) (Or.inl ⟨by kernel_rfl, ?_⟩) (by assumption) ?_
                rotate_left
                · (rintro w' ⟨s0, s1, s2, s3⟩; go_simp; first | done | with_reducible rfl)
                simp only [Act.put, List.setIfInBounds_toArray, List.set_cons_zero, List.set_cons_succ]
                refine takeH (i := 9) (some 72) (v := ?_) rfl rfl (by kernel_rfl) (by kernel_rfl) (by kernel_rfl) (fun _ _ _ h => h) (Or.inl ⟨by kernel_rfl, ?_⟩) (by assumption) ?_
                rotate_left
                · (rintro w' ⟨s0, s1, s2, s3⟩; go_simp; first | done | with_reducible rfl)
                simp only [Act.put, List.setIfInBounds_toArray, List.set_cons_zero, List.set_cons_succ]
                refine takeH (i := 10) (some 73) (v := ?_) rfl rfl (by kernel_rfl) (by kernel_rfl) (by kernel_rfl) (fun _ _ _ h => h) (Or.inl ⟨by kernel_rfl, ?_⟩) (by assumption) ?_
                rotate_left
                · (rintro w' ⟨s0, s1, s2, s3⟩; go_simp; first | done | with_reducible rfl)
                simp only [Act.put, List.setIfInBounds_toArray, List.set_cons_zero, List.set_cons_succ]
                refine takeH (i := 11) (some 74) (v := ?_) rfl rfl (by kernel_rfl) (by kernel_rfl) (by kernel_rfl) (fun _ _ _ h => h) (Or.inl ⟨by kernel_rfl, ?_⟩) (by assumption) ?_
                rotate_left
                · (rintro w' ⟨s0, s1, s2, s3⟩; go_simp; first | done | with_reducible rfl)
                simp only [Act.put, List.setIfInBounds_toArray, List.set_cons_zero, List.set_cons_succ]
                refine takeH (i := 12) (some 75) (v := ?_) rfl rfl (by kernel_rfl) (by kernel_rfl) (by kernel_rfl) (fun _ _ _ h => h) (Or.inl ⟨by kernel_rfl, ?_⟩) (by assumption) ?_
                rotate_left
                · (rintro w' ⟨s0, s1, s2, s3⟩; go_simp; first | done | with_reducible rfl)
                simp only [Act.put, List.setIfInBounds_toArray, List.set_cons_zero, List.set_cons_succ]
                refine takeH (i := 13) (some 76) (v := ?_) rfl rfl (by kernel_rfl) (by kernel_rfl) (by kernel_rfl) (fun _ _ _ h => h) (Or.inl ⟨by kernel_rfl, ?_⟩) (by assumption) ?_
                rotate_left
                · (rintro w' ⟨s0, s1, s2, s3⟩; go_simp; first | done | with_reducible rfl)
                simp only [Act.put, List.setIfInBounds_toArray, List.set_cons_zero, List.set_cons_succ]
                refine takeH (i := 14) (some 77) (v := ?_) rfl rfl (by kernel_rfl) (by kernel_rfl) (by kernel_rfl) (fun _ _ _ h => h) (Or.inl ⟨by kernel_rfl, ?_⟩) (by assumption) ?_
                rotate_left
                · (rintro w' ⟨s0, s1, s2, s3⟩; go_simp; first | done | with_reducible rfl)
                simp only [Act.put, List.setIfInBounds_toArray, List.set_cons_zero, List.set_cons_succ]
                refine takeH (i := 15) (some 78) (v := ?_) rfl rfl (by kernel_rfl) (by kernel_rfl) (by kernel_rfl) (fun _ _ _ h => h) (Or.inl ⟨by kernel_rfl, ?_⟩) (by assumption) ?_
                rotate_left
                · (rintro w' ⟨s0, s1, s2, s3⟩; go_simp; first | done | with_reducible rfl)
                simp only [Act.put, List.setIfInBounds_toArray, List.set_cons_zero, List.set_cons_succ]
                refine wpAnyH_ready (rs := [7]) (by kernel_rfl) (by simp) ?_
                refine AllReadyH.cons rfl (fun K hK => ?_) AllReadyH.nil
                go_simp
                have ht2 : Calls Tryd.prog 80 #[.slice A1 row.length c1, .slice (some ⟨wr.heap.size, 0, none⟩) x.f0.size (grownCap wr.drew x.f0.size 0 5)] (Lib.bytesWorld wr.drew 5 x.f0) fun en w' => ∃ v, en = .returned v ∧ Kd.R (Kd.int .u8) 5 w' wr.drew.heap.size (fun _ => True) v row2 ∧ Below wr.drew.heap.size wr.drew w' := HTX wr.drew (Below.refl _ _ |>.drew)
                have HT2 := Aside0.mk ht2
                refine hK.out _ _ ?_ (fun hHeld => ?_)
                · exact hln.drew.bytes _ _
                clear hK K HTX hcv ht2
                try simp only [Act.put, List.setIfInBounds_toArray, List.set_cons_zero, List.set_cons_succ]
                generalize Lib.bytesWorld wr.drew 5 x.f0 = X at *
                refine wpAnyH_ready (rs := [8]) (by kernel_rfl) (by simp) ?_
                refine AllReadyH.cons rfl (fun K hK => ?_) AllReadyH.nil
                go_simp
                go_at_call 80
                refine HT2.out.mono ?_
                rintro e wt ⟨v, rfl, hv, hb⟩
                obtain ⟨A2, c2, e2, hc2, hr2⟩ := R_C hv
                cases e2
                refine hK.out _ _ ?_ (fun hHeld => ?_)
                · exact hln.drew.next hb
                clear hK K HT2
                try simp only [Act.put, List.setIfInBounds_toArray, List.set_cons_zero, List.set_cons_succ]
                refine wpAnyH_ready (rs := [16]) (by kernel_rfl) (by simp) ?_
                refine AllReadyH.cons rfl (fun K hK => ?_) AllReadyH.nil
                go_simp
                go_at_call 77
                refine (HNM _ _ _ hr2 hc2).mono ?_
                rintro e w' ⟨v, rfl, hv2, hb2⟩
                refine hK.out _ _ ?_ (fun hHeld => ?_)
                · exact (hln.drew.next hb).next hb2
                clear hK K
                try simp only [Act.put, List.setIfInBounds_toArray, List.set_cons_zero, List.set_cons_succ]
                refine takeH (i := 17) (some 5) (v := ?_) rfl rfl (by kernel_rfl) (by kernel_rfl) (by kernel_rfl) (fun _ _ _ h => h) (Or.inl ⟨by kernel_rfl, ?_⟩) (by assumption) ?_
                rotate_left
                · (rintro w' ⟨s0, s1, s2, s3⟩; go_simp; first | done | with_reducible rfl)
                simp only [Act.put, List.setIfInBounds_toArray, List.set_cons_zero, List.set_cons_succ]
                refine wpAnyH_done (by kernel_rfl) ?_ _
                have hBt : Below wr.heap.size wr wt := (Below.refl wr.heap.size wr).drew.trans hb
                have hS6 := (HS5.out.next hBt).next hb2
                have HO6 := Aside0.mk (Kd.R_lower hv2 (show w.heap.size ≤ wt.heap.size from Nat.le_trans HB5.out.size hBt.size))
                have HS6 := Aside0.mk hS6
                have hwk := wrap_next o.f4.length k hlt HLM.out
                clear hS6 hBt hv hv2 hb hb2 hr2 hc2 hln hHeld HNM
                go_wp2_with fail
                go_roundw
                case rel =>
                  have e : row2 ++ vEnc x.f1.toNat = row4 ++ (o.f4.take (k + 1)).flatMap lineB := by
                    rw [HROW2.out, HRW.out, HT.out, List.flatMap_append]
                    simp [lineB, List.append_assoc]
                  refine ⟨k + 1, _, by omega, by rw [hwk], ⟨e⟩, ⟨?_⟩, HO6, HS6⟩
                  have h1 := HRL.out
                  have h2 := HLX.out
                  unfold lineB at h2
                  rw [HROW2.out]
                  simp only [List.length_append] at h2 ⊢
                  omega
                case measure => exact meas_step o.f4.length k hlt hwk
              · have hb : decide ((k : Int) < (o.f4.length : Int)) = false := by simp; omega
                obtain rfl : k = o.f4.length := by omega
                go_wp2_with fail
                go_ret2
                refine ⟨_, by rw [HE0.out]; rfl, ?_, HB5.out⟩
                have h := HO5.out
                rw [HRW.out, List.take_length, HR4.out] at h
                unfold opR
                rw [hok, if_pos rfl, HRE.out]
                exact h
end Go.Proofs.YtmeblifbkhpdnaaDoor.K
namespace Go.Proofs.YtmeblifbkhpdnaaDoor.K
set_option linter.unusedVariables false
set_option linter.unusedSimpArgs false
open Go.RowKit Go.Proofs.YtmeblifbkhpdnaaDoorW.PrintWords Go.Proofs.YtmeblifbkhpdnaaDoorW.PrintLast Go.Proofs.YtmeblifbkhpdnaaDoorW.PrintMore
theorem ref_entCheck (w : World) (A : Option Addr) (c : Nat) (x : Ent) (hA : kLine.C w A x.f2.f4.length x.f2.f4) (hc : x.f2.f4.length ≤ c) (hs : EntS x) (hw : I64 x.f2.f3) :
    Calls Tryd.prog 84 #[entV x (.slice A x.f2.f4.length c)] w fun en w' => en = .returned (.int .i64 (entE x)) ∧ Below w.heap.size w w' := by
  obtain ⟨k, hk⟩ := (entE_ref x hs hw).some
  exact gimbalref04_Check.calls k x.f0 x.f1 x.f2.f0 x.f2.f1 x.f2.f2 x.f2.f3 A c x.f2.f4 _ w hA hc hk
set_option maxRecDepth 20000 in
set_option maxHeartbeats 4000000 in
theorem ref_entBytes (w : World) (A : Option Addr) (c : Nat) (x : Ent) (hA : kLine.C w A x.f2.f4.length x.f2.f4) (hc : x.f2.f4.length ≤ c) (hs : EntS x) (hw : I64 x.f2.f3) :
    Calls Tryd.prog 78 #[entV x (.slice A x.f2.f4.length c)] w fun en w' => ∃ v, en = .returned (.tuple #[v, .int .i64 (entE x)]) ∧ Kd.R (Kd.int .u8) 5 w' w.heap.size (fun _ => True) v (entR x) ∧ Below w.heap.size w w' := by
  have HW := Aside0.mk (below_alloc (Below.refl w.heap.size w) (.cells #[.int .i64 x.f0, .int .i64 x.f1, .int .i64 x.f2.f0, .string x.f2.f1, .int .i64 x.f2.f2, .int .i64 x.f2.f3, .slice A x.f2.f4.length c] 38))
  obtain ⟨w0, hw0⟩ : ∃ w0, w0 = w.alloc (.cells #[.int .i64 x.f0, .int .i64 x.f1, .int .i64 x.f2.f0, .string x.f2.f1, .int .i64 x.f2.f2, .int .i64 x.f2.f3, .slice A x.f2.f4.length c] 38) := ⟨_, rfl⟩
  have HBX : Aside0 (w0.heap[w.heap.size]? = some (.cells #[.int .i64 x.f0, .int .i64 x.f1, .int .i64 x.f2.f0, .string x.f2.f1, .int .i64 x.f2.f2, .int .i64 x.f2.f3, .slice A x.f2.f4.length c] 38 (0, 0))) := ⟨by rw [hw0]; exact blk_new w _⟩
  rw [← hw0] at HW
  have HCK := Aside0.mk (ref_entCheck w0 A c x (Kd.C_below hA HW.out) hc hs hw)
  have HBT := Aside0.mk (fun W (hb : Below w0.heap.size w0 W) => ref_opBytes W A c x.f2 (Kd.C_below (Kd.C_below hA HW.out) hb) hc hw hs.2.1 hs.2.2)
  have HI := Aside0.mk hw
  clear hA hc hw hs
  have hE : entE x = if entOk x then 0 else 2 := rfl
  have hR : entR x = if entOk x then entB x else [] := rfl
  cases hok : entOk x
  · rw [hok] at hE hR
    simp only [Bool.false_eq_true, if_false] at hE hR
    rw [hE] at HCK
    have HE := Aside0.mk hE
    have HR := Aside0.mk hR
    clear hE hR HBT HI hok
    go_enter Tryd.func78, Tryd.ntmps78
    go_wp2_with (first | (go_at_call 84; rw [← hw0]; refine HCK.out.mono ?_; rintro e w' ⟨rfl, hb⟩; have HB2 := Aside0.mk hb; clear hb))
    go_ret2
    exact ⟨_, by rw [HE.out]; rfl, by rw [HR.out]; exact Kd.R_nil _ _ _ _ _, HW.out.trans (HB2.out.mono HW.out.size)⟩
  · rw [hok] at hE hR
    simp only [if_true] at hE hR
    rw [hE] at HCK
    have HE := Aside0.mk hE
    have HR := Aside0.mk hR
    obtain ⟨h0, h1, h2, h3, h4⟩ := entOk_parts x hok
    have hoE : opE x.f2 = 0 := by unfold opE; rw [h4]; rfl
    have hoR : opR x.f2 = opB x.f2 := by unfold opR; rw [h4]; rfl
    rw [hoE, hoR] at HBT
    have HOL := Aside0.mk (opB_len _ h4 HI.out)
    have hwn : IntKind.u64.wrap x.f1 = x.f1 := wrap_u64 _ (by omega) (by omega)
    have HV := Aside0.mk (fun W A1 c1 (hC : Kd.C (Kd.int .u8) W A1 [x.f0 % 256].length [x.f0 % 256]) (hc1 : [x.f0 % 256].length ≤ c1) => ref_Varint W A1 c1 [x.f0 % 256] x.f1.toNat hC hc1 (by simp) (by omega))
    rw [Int.toNat_of_nonneg (by omega)] at HV
    have HVL := Aside0.mk (vEnc_ten x.f1.toNat (by omega))
    clear hE hR hok h0 h1 h2 h3 h4 hoE hoR HI
    go_enter Tryd.func78, Tryd.ntmps78
    go_upto_region 5 with (first | (go_at_call 84; rw [← hw0]; refine HCK.out.mono ?_; rintro e w1 ⟨rfl, hb⟩; have HB2 := Aside0.mk hb; have HBX2 := Aside0.mk (blk_below HBX.out hb); have g0 := blk_cell HBX2.out 0; have g1 := blk_cell HBX2.out 1; have g2 := blk_cell HBX2.out 2; have g3 := blk_cell HBX2.out 3; have g4 := blk_cell HBX2.out 4; have g5 := blk_cell HBX2.out 5; have g6 := blk_cell HBX2.out 6; simp only [List.getElem?_toArray, List.getElem?_cons_zero, List.getElem?_cons_succ] at g0 g1 g2 g3 g4 g5 g6; clear hb) | (go_at_call 94; refine (HBT.out _ HB2.out).mono ?_; rintro e w2 ⟨v, rfl, hv, hb⟩; have HO := Aside0.mk hv; have HB3 := Aside0.mk (HB2.out.trans (hb.mono HB2.out.size)); have HBX3 := Aside0.mk (blk_below HBX2.out hb); clear g0 g1 g2 g3 g4 g5 g6; have g0 := blk_cell HBX3.out 0; have g1 := blk_cell HBX3.out 1; simp only [List.getElem?_toArray, List.getElem?_cons_zero, List.getElem?_cons_succ] at g0 g1; clear hv hb))
    obtain ⟨A2, c2, e2, hc2, hr2⟩ := R_C HO.out
    cases e2
    have HR2 := Aside0.mk hr2
    have HB4 := Aside0.mk (below_alloc (Below.refl w2.heap.size w2) (.cells #[.int .u8 (x.f0 % 256)] 5))
    have HV2 := Aside0.mk (HV.out (w2.alloc (.cells #[.int .u8 (x.f0 % 256)] 5)) (some ⟨w2.heap.size, 0, none⟩) 1 (lit_C .u8 w2 5 (0, 0) [x.f0 % 256] (by simp)) (by simp))
    have g8 : (w2.alloc (.cells #[.int .u8 (x.f0 % 256)] 5)).cell? ⟨w.heap.size, 1, none⟩ = some (.int .i64 x.f1) := blk_cell (blk_alloc HBX3.out _) 1
    clear hr2 hc2 HV
    go_wp2_with (first | (go_at_call 77; refine HV2.out.mono ?_; rintro e w3 ⟨v3, rfl, hv, hb⟩; have HB5 := Aside0.mk (HB4.out.trans (hb.mono HB4.out.size)); have HR3 := Aside0.mk (Kd.C_below HR2.out HB5.out); have HB6 := Aside0.mk (HW.out.trans ((HB3.out.trans (HB5.out.mono HB3.out.size)).mono HW.out.size)); have HO3 := Aside0.mk (Kd.R_lower hv (show w.heap.size ≤ (w2.alloc (.cells #[.int .u8 (x.f0 % 256)] 5)).heap.size from Nat.le_trans HW.out.size (Nat.le_trans HB3.out.size HB4.out.size))); clear hv hb) | ((with_reducible refine gate_builtin (b := .append) (xs := #[.tmp 25, .tmp 26]) rfl ?_); at_builtin; refine Kd.R_append_rows (Kd.int .u8) (w0 := w) w.heap.size rfl (.tmp 25) (.tmp 26) 22 5 (.int .u8 0) 1 rfl Tryd.underlying22 infou8 rfl (by decide) (by omega) (v3) ([x.f0 % 256] ++ vEnc x.f1.toNat) (opB x.f2) _ _ _ (fun _ => True) (fun _ => False) rfl rfl ?aO ?aR (fun _ _ h => h) (fun _ h => h.elim) ?aF ?aB ?aS ?aL ?_; (case aR => repeat (first | exact HR3.out | (with_reducible refine Kd.C_alloc ?_ _) | (with_reducible refine Kd.C_drewN ?_ _) | (with_reducible refine Kd.C_drew ?_))); (case aB => exact (by repeat (first | (with_reducible first | exact HB6.out | apply below_alloc | apply pw_below_drewN | apply below_drew1) | exact HB6.out))); (case aF => exact (fun _ _ => trivial)); (case aO => exact (by (with_reducible repeat (first | apply Kd.R_alloc | apply Kd.R_drewN | apply Kd.R_drew)); exact HO3.out)); (case aS => exact (below_size (by repeat (first | (with_reducible first | exact HB6.out | apply below_alloc | apply pw_below_drewN | apply below_drew1) | exact HB6.out)))); (case aL => (have h1 := HOL.out; have h2 := HVL.out; simp only [List.length_append, List.length_cons, List.length_nil]; omega)); intro v7 w7 hv hw hg7 hat7; clear hg7 hat7))
    go_ret2
    exact ⟨_, by rw [HE.out]; rfl, by rw [HR.out]; exact hv, hw⟩
set_option maxRecDepth 20000 in
set_option maxHeartbeats 4000000 in
theorem ref_Row (w : World) (A : Option Addr) (c : Nat) (l : List Ent) (hA : kEnt.C w A l.length l) (hc : l.length ≤ c) (hs : ∀ x ∈ l, EntS x) (hw : ∀ x ∈ l, I64 x.f2.f3) (hl : l.length < 4294967296) :
    Calls Tryd.prog 79 #[.slice A l.length c] w fun en w' => ∃ v, en = .returned (.tuple #[v, .int .i64 (rowE l)]) ∧ Kd.R (Kd.int .u8) 5 w' w.heap.size (fun _ => True) v (rowR l) ∧ Below w.heap.size w w' := by
  have HA := Aside0.mk hA
  have HI := Aside0.mk hw
  have HS := Aside0.mk hs
  have HL := Aside0.mk hl
  have hwl := wrap_u64_nat l.length (by omega)
  have HV := Aside0.mk (ref_Varint w none 0 [] l.length (Kd.C_nil _ _) (Nat.le_refl _) (by simp) (by omega))
  have HVL := Aside0.mk (vEnc_ten l.length (by omega))
  have hlm : l.length ≤ maxLen := hA.2.1
  have HLM := Aside0.mk hlm
  clear hA hw hl hlm hs
  go_enter Tryd.func79, Tryd.ntmps79
  go_wp2_with (first | (go_at_call 77; refine HV.out.mono ?_; rintro en w1 ⟨v, rfl, hv, hb⟩; have HO := Aside0.mk hv; have HB := Aside0.mk hb; clear hv hb))
  go_loopw [4, 5] (fun s6 v wr => ∃ (k : Nat) (row : List Int), k ≤ l.length ∧ v = .int .i64 k ∧ Aside0 (row = vEnc l.length ++ (l.take k).flatMap entT) ∧ Aside0 (row.length ≤ 10 + 182 * k) ∧ Aside0 ((l.take k).all entOk = true) ∧ Aside0 (Kd.R (Kd.int .u8) 5 wr w.heap.size (fun _ => True) s6 row) ∧ Aside0 (Below w.heap.size w wr)) (fun _ v _ => l.length - (intOf v).toNat)
  case atStart => exact ⟨0, _, by omega, rfl, ⟨by simp⟩, ⟨by have := HVL.out; simpa using this⟩, ⟨rfl⟩, HO, HB⟩
  case round =>
    clear HO HB HV
    obtain ⟨k, row, hk, rfl, HRW, HRL, HAL, HO, HB⟩ := hrel
    by_cases hlt : k < l.length
    · have hb : decide ((k : Int) < (l.length : Int)) = true := by simp; omega
      obtain ⟨ad, A6, c6, e1, ⟨h0, h1, h2, h3, h4, h5, h6⟩, hc6, hC6⟩ := ent_at HA.out HB.out k hlt
      cases e1
      have HT := Aside0.mk (takeE_snoc l k hlt)
      have HBAD := Aside0.mk (all_bad l k hlt)
      have HIx := Aside0.mk (HI.out l[k] (List.getElem_mem hlt))
      have HSx := Aside0.mk (HS.out l[k] (List.getElem_mem hlt))
      generalize l[k] = x at *
      have HC6 := Aside0.mk hC6
      have HCC6 := Aside0.mk hc6
      have HBT := Aside0.mk (ref_entBytes wr A6 c6 x HC6.out HCC6.out HSx.out HIx.out)
      clear hC6 hc6
      go_upto_if 27 with (first | (go_at_call 78; refine HBT.out.mono ?_; rintro en w2 ⟨v, rfl, hv, hb⟩; have HOx := Aside0.mk hv; have HB2 := Aside0.mk hb; clear hv hb))
      have hE : entE x = if entOk x then 0 else 2 := rfl
      have hR : entR x = if entOk x then entB x else [] := rfl
      cases hok : entOk x
      · rw [hok] at hE
        simp only [Bool.false_eq_true, if_false] at hE
        have hz : (entE x != 0) = true := by rw [hE]; rfl
        have HE := Aside0.mk hE
        have HBD := Aside0.mk (HBAD.out hok)
        clear hE hR hok
        go_wp2_with fail
        go_ret2
        exact ⟨.slice none 0 0, by unfold rowE; rw [HBD.out, HE.out]; rfl, by unfold rowR; rw [HBD.out]; exact Kd.R_nil _ _ _ _ _, HB.out.trans (HB2.out.mono HB.out.size)⟩
      · rw [hok] at hE hR
        simp only [if_true] at hE hR
        have hz : (entE x != 0) = false := by rw [hE]; rfl
        rw [hR] at HOx
        have HXL := Aside0.mk (entT_len x hok HIx.out)
        have HXB := Aside0.mk (entB_len x hok HIx.out)
        obtain ⟨A1, c1, e1, hc1, hr1⟩ := R_C (Kd.R_below HO.out HB2.out)
        cases e1
        obtain ⟨A2, c2, e2, hc2, hr2⟩ := R_C HOx.out
        cases e2
        have hrl : row.length + (entB x).length + 10 < 140737488355328 := by
          have h1 := HRL.out
          have h2 := HL.out
          have h3 := HXB.out
          omega
        have HTX := Aside0.mk (ref_Text w2 A1 c1 row A2 c2 (entB x) hr1 hc1 hr2 hc2 hrl)
        have HOK := Aside0.mk hok
        have HB2' := Aside0.mk (HB.out.trans (HB2.out.mono HB.out.size))
        clear hE hR hok hr1 hc1 hr2 hc2 hrl HO HOx
        go_wp2_with (first | (go_at_call 80; refine HTX.out.mono ?_; rintro en w3 ⟨v3, rfl, hv, hb⟩; have HO3 := Aside0.mk (Kd.R_lower hv HB2'.out.size); have HB3 := Aside0.mk (HB2'.out.trans (hb.mono HB2'.out.size)); clear hv hb))
        have hwk := wrap_next l.length k hlt HLM.out
        go_roundw
        case rel =>
          have e : row ++ (vEnc (entB x).length ++ entB x) = vEnc l.length ++ (l.take (k + 1)).flatMap entT := by
            rw [HRW.out, HT.out, List.flatMap_append]
            simp [entT, List.append_assoc]
          refine ⟨k + 1, _, by omega, by rw [hwk], ⟨e⟩, ⟨?_⟩, ⟨?_⟩, HO3, HB3⟩
          · have h1 := HRL.out
            have h2 := HXL.out
            unfold entT at h2
            rw [List.length_append]
            omega
          · rw [HT.out, List.all_append, HAL.out]
            simp [HOK.out]
        case measure => exact meas_step l.length k hlt hwk
    · have hb : decide ((k : Int) < (l.length : Int)) = false := by simp; omega
      obtain rfl : k = l.length := by omega
      have hall := HAL.out
      rw [List.take_length] at hall
      have HALL := Aside0.mk hall
      clear hall
      go_wp2_with fail
      go_ret2
      refine ⟨_, by unfold rowE; rw [HALL.out]; rfl, ?_, HB.out⟩
      have h := HO.out
      rw [HRW.out, List.take_length] at h
      unfold rowR
      rw [HALL.out]
      exact h
end Go.Proofs.YtmeblifbkhpdnaaDoor.K
namespace Go.Proofs.YtmeblifbkhpdnaaDoor.K
set_option linter.unusedVariables false
set_option linter.unusedSimpArgs false
open Go.RowKit Go.Proofs.YtmeblifbkhpdnaaDoorW.PrintWords Go.Proofs.YtmeblifbkhpdnaaDoorW.PrintLast Go.Proofs.YtmeblifbkhpdnaaDoorW.PrintMore
theorem lsb0 (v : BitVec 32) : v.getLsbD 0 = decide (v.toNat % 2 = 1) := by
  unfold BitVec.getLsbD
  rw [Nat.testBit_zero]
theorem shr1 (v : BitVec 32) : ((v >>> 1).toNat : Int) = (v.toNat : Int) / 2 := by
  have : (v >>> 1).toNat = v.toNat / 2 := by rw [BitVec.toNat_ushiftRight, Nat.shiftRight_eq_div_pow]
  rw [this]
  omega
theorem st1_even (v : BitVec 32) (h : v.toNat % 2 = 0) : (v.toNat : Int) / 2 = ((CrcMath.st1 v).toNat : Int) := by
  have h0 : v.getLsbD 0 = false := by rw [lsb0]; simp; omega
  unfold CrcMath.st1
  rw [h0, ← shr1]
  simp
theorem st1_odd (v : BitVec 32) (h : v.toNat % 2 = 1) : Go.bits .xor .u32 ((v.toNat : Int) / 2) 3988292384 = ((CrcMath.st1 v).toNat : Int) := by
  have h0 : v.getLsbD 0 = true := by rw [lsb0]; simp; omega
  unfold CrcMath.st1
  rw [h0, if_pos rfl, ← shr1, show (3988292384 : Int) = (CrcMath.poly.toNat : Int) by decide, bits_xor32]
theorem crcS_snoc8 (s : BitVec 32) (l : List Int) (k : Nat) (h : k < l.length) : CrcMath.crcS s (l.take (k + 1)) = CrcMath.stN 8 (CrcMath.crcS s (l.take k) ^^^ BitVec.ofInt 32 (rd l k)) := by
  rw [List.take_succ_eq_append_getElem h, CrcMath.crcS_append]
  have : rd l k = l[k] := by simp [rd, List.getD_eq_getElem?_getD, List.getElem?_eq_getElem h]
  rw [this]
  rfl
set_option maxHeartbeats 8000000 in
set_option maxRecDepth 100000 in
theorem ref_Crc (w : World) (A0 : Option Addr) (c0 : Nat) (l0 : List Int) (hr0 : Kd.C (Kd.int .u8) w A0 l0.length l0) :
    Calls Tryd.prog 31 #[.slice A0 l0.length c0] w fun e w' => e = .returned (.int .u32 (crcI l0)) ∧ Below w.heap.size w w' := by
  have HR0 := Aside0.mk hr0
  have hlen := hr0.2.1
  clear hr0
  go_enter Tryd.func31, Tryd.ntmps31
  go_wp2_with fail
  have hl2 : (0 : Int) ≤ (l0.length : Int) := Int.natCast_nonneg _
  go_loop [3, 4] (fun n v => ∃ k : Nat, k ≤ l0.length ∧ v = .int .i64 k ∧ n = .int .u32 ((CrcMath.crcS CrcMath.ones (l0.take k)).toNat : Int)) (fun _ v => l0.length - (intOf v).toNat)
  case atStart => exact ⟨0, by omega, rfl, rfl⟩
  case round =>
    obtain ⟨k, hk, rfl, rfl⟩ := hrel
    by_cases hlt : k < l0.length
    · have hb : decide ((k : Int) < (l0.length : Int)) = true := by simp; omega
      have S := Aside0.mk (crcS_snoc8 CrcMath.ones l0 k hlt)
      obtain ⟨ad, e1, hc⟩ := Kd.at_int HR0.out (k : Int) (by omega) (by omega)
      cases e1
      rw [Int.toNat_natCast] at hc
      generalize hs : CrcMath.crcS CrcMath.ones (l0.take k) = s at *
      generalize hcq : rd l0 (k : Int) = c at *
      clear hs
      obtain ⟨v1, hv1⟩ : ∃ v, v = s ^^^ BitVec.ofInt 32 c := ⟨_, rfl⟩
      rw [← hv1] at S
      have q1 := (bits_byte32 s c).trans (congrArg (fun z : BitVec 32 => (z.toNat : Int)) hv1.symm)
      clear hv1 hcq
      go_wp2_with fail
      go_loop [3, 5] (fun n v => ∃ j : Nat, j ≤ 8 ∧ v = .int .i64 j ∧ n = .int .u32 ((CrcMath.stN j v1).toNat : Int)) (fun _ v => 8 - (intOf v).toNat)
      case atStart => exact ⟨0, by omega, rfl, rfl⟩
      case round =>
        obtain ⟨j, hj, rfl, rfl⟩ := hrel
        by_cases hlt2 : j < 8
        · have hb2 : decide ((j : Int) < 8) = true := by simp; omega
          have S2 := Aside0.mk (CrcMath.stN_succ' j v1)
          generalize CrcMath.stN j v1 = v2 at *
          by_cases ho : v2.toNat % 2 = 1
          · have hodd : ((v2.toNat : Int) % 2 == 1) = true := by simp; omega
            have hq := st1_odd v2 ho
            clear ho
            go_wp2_with fail
            go_round
            case rel => exact ⟨j + 1, by omega, by go_num, by rw [S2.out]⟩
            case measure => simp [intOf]; omega
          · have hodd : ((v2.toNat : Int) % 2 == 1) = false := by rw [beq_eq_false_iff_ne]; omega
            have hq := st1_even v2 (by omega)
            clear ho
            go_wp2_with fail
            go_round
            case rel => exact ⟨j + 1, by omega, by go_num, by rw [S2.out]⟩
            case measure => simp [intOf]; omega
        · have hb2 : decide ((j : Int) < 8) = false := by simp; omega
          obtain rfl : j = 8 := by omega
          go_wp2_with fail
          go_round
          case rel => exact ⟨k + 1, by omega, by go_num, by rw [S.out]⟩
          case measure => simp [intOf]; omega
    · have hb : decide ((k : Int) < (l0.length : Int)) = false := by simp; omega
      obtain rfl : k = l0.length := by omega
      go_wp2_with fail
      go_ret
      exact ⟨by simp [crcI_max], Below.refl _ _⟩
set_option maxHeartbeats 800000 in
theorem ref_hasOp (w : World) (k : Int) : Calls Tryd.prog 48 #[.int .i64 k] w fun en w' => en = .returned (.bool (hasO k)) ∧ Below w.heap.size w w' :=
  (gimbalref14_hasOp.calls k _ w (op14_ref k)).mono fun _ _ h => ⟨h.1, h.2.below⟩
theorem ref_hasView (w : World) (k : Int) : Calls Tryd.prog 47 #[.int .i64 k] w fun en w' => en = .returned (.bool (hasV k)) ∧ Below w.heap.size w w' :=
  (gimbalref14_hasView.calls k _ w (view14_ref k)).mono fun _ _ h => ⟨h.1, h.2.below⟩
theorem body_1 (v l o : Int) (e : Ent) (es : List Ent) : body (⟨1, v, l, o, e, es⟩ : Rec) = [1] ++ vEnc v.toNat ++ vEnc l.toNat := by
  have a0 : nB (rHas 1) (⟨1, v, l, o, e, es⟩ : Rec) 0 = [] := by unfold nB; rw [if_neg (by decide)]
  have a1 : nB (rHas 1) (⟨1, v, l, o, e, es⟩ : Rec) 1 = vEnc v.toNat := by unfold nB; rw [if_pos (by decide)]; rfl
  have a2 : nB (rHas 1) (⟨1, v, l, o, e, es⟩ : Rec) 2 = vEnc l.toNat := by unfold nB; rw [if_pos (by decide)]; rfl
  have a3 : (bits .and .i64 (rHas 1) 4 != 0) = false := by decide
  have a4 : (bits .and .i64 (rHas 1) 8 != 0) = false := by decide
  rw [body_eq]
  show ((1 : Int) % 256) :: (nB (rHas 1) (⟨1, v, l, o, e, es⟩ : Rec) 0 ++ (nB (rHas 1) (⟨1, v, l, o, e, es⟩ : Rec) 1 ++ (nB (rHas 1) (⟨1, v, l, o, e, es⟩ : Rec) 2 ++ ((if bits .and .i64 (rHas 1) 4 != 0 then entB e else []) ++ (if bits .and .i64 (rHas 1) 8 != 0 then vEnc (rowB es).length ++ rowB es else []))))) = _
  rw [a0, a1, a2, a3, a4]
  simp
theorem body_2 (v l o : Int) (e : Ent) (es : List Ent) : body (⟨2, v, l, o, e, es⟩ : Rec) = [2] ++ vEnc o.toNat ++ entB e := by
  have a0 : nB (rHas 2) (⟨2, v, l, o, e, es⟩ : Rec) 0 = vEnc o.toNat := by unfold nB; rw [if_pos (by decide)]; rfl
  have a1 : nB (rHas 2) (⟨2, v, l, o, e, es⟩ : Rec) 1 = [] := by unfold nB; rw [if_neg (by decide)]
  have a2 : nB (rHas 2) (⟨2, v, l, o, e, es⟩ : Rec) 2 = [] := by unfold nB; rw [if_neg (by decide)]
  have a3 : (bits .and .i64 (rHas 2) 4 != 0) = true := by decide
  have a4 : (bits .and .i64 (rHas 2) 8 != 0) = false := by decide
  rw [body_eq]
  show ((2 : Int) % 256) :: (nB (rHas 2) (⟨2, v, l, o, e, es⟩ : Rec) 0 ++ (nB (rHas 2) (⟨2, v, l, o, e, es⟩ : Rec) 1 ++ (nB (rHas 2) (⟨2, v, l, o, e, es⟩ : Rec) 2 ++ ((if bits .and .i64 (rHas 2) 4 != 0 then entB e else []) ++ (if bits .and .i64 (rHas 2) 8 != 0 then vEnc (rowB es).length ++ rowB es else []))))) = _
  rw [a0, a1, a2, a3, a4]
  simp
theorem body_3 (v l o : Int) (e : Ent) (es : List Ent) : body (⟨3, v, l, o, e, es⟩ : Rec) = [3] ++ vEnc o.toNat ++ vEnc v.toNat ++ vEnc l.toNat ++ (vEnc (rowB es).length ++ rowB es) := by
  have a0 : nB (rHas 3) (⟨3, v, l, o, e, es⟩ : Rec) 0 = vEnc o.toNat := by unfold nB; rw [if_pos (by decide)]; rfl
  have a1 : nB (rHas 3) (⟨3, v, l, o, e, es⟩ : Rec) 1 = vEnc v.toNat := by unfold nB; rw [if_pos (by decide)]; rfl
  have a2 : nB (rHas 3) (⟨3, v, l, o, e, es⟩ : Rec) 2 = vEnc l.toNat := by unfold nB; rw [if_pos (by decide)]; rfl
  have a3 : (bits .and .i64 (rHas 3) 4 != 0) = false := by decide
  have a4 : (bits .and .i64 (rHas 3) 8 != 0) = true := by decide
  rw [body_eq]
  show ((3 : Int) % 256) :: (nB (rHas 3) (⟨3, v, l, o, e, es⟩ : Rec) 0 ++ (nB (rHas 3) (⟨3, v, l, o, e, es⟩ : Rec) 1 ++ (nB (rHas 3) (⟨3, v, l, o, e, es⟩ : Rec) 2 ++ ((if bits .and .i64 (rHas 3) 4 != 0 then entB e else []) ++ (if bits .and .i64 (rHas 3) 8 != 0 then vEnc (rowB es).length ++ rowB es else []))))) = _
  rw [a0, a1, a2, a3, a4]
  simp
abbrev VLS (wr : World) (b : Nat) (v l : Int) (W : World) : Prop := W.cell? ⟨b, 1, none⟩ = some (.int .i64 v) ∧ W.cell? ⟨b, 2, none⟩ = some (.int .i64 l) ∧ Aside0 (Below wr.heap.size wr W)
theorem VLS.next {wr W W' : World} {b : Nat} {v l : Int} (h : VLS wr b v l W) (hb : Below W.heap.size W W') : VLS wr b v l W' :=
  ⟨(hb.cell (cell_blk h.1)).trans h.1, (hb.cell (cell_blk h.2.1)).trans h.2.1, ⟨h.2.2.out.trans (hb.mono h.2.2.out.size)⟩⟩
theorem VLS.next' {wr W W' : World} {b : Nat} {v l : Int} (hb : Below W.heap.size W W') (h : VLS wr b v l W) : VLS wr b v l W' := h.next hb
theorem VLS.drew {wr W : World} {b : Nat} {v l : Int} (h : VLS wr b v l W) : VLS wr b v l W.drew := h.next (Below.refl _ _ |>.drew)
end Go.Proofs.YtmeblifbkhpdnaaDoor.K
namespace Go.Proofs.YtmeblifbkhpdnaaDoor.K
set_option linter.unusedVariables false
set_option linter.unusedSimpArgs false
open Go.RowKit Go.Proofs.YtmeblifbkhpdnaaDoorW.PrintWords Go.Proofs.YtmeblifbkhpdnaaDoorW.PrintLast Go.Proofs.YtmeblifbkhpdnaaDoorW.PrintMore
theorem ref_hasOp' (w : World) (k : Int) (b : Bool) (h : hasO k = b) : Calls Tryd.prog 48 #[.int .i64 k] w fun en w' => en = .returned (.bool b) ∧ Below w.heap.size w w' := by
  subst h
  exact ref_hasOp w k
theorem ref_hasView' (w : World) (k : Int) (b : Bool) (h : hasV k = b) : Calls Tryd.prog 47 #[.int .i64 k] w fun en w' => en = .returned (.bool b) ∧ Below w.heap.size w w' := by
  subst h
  exact ref_hasView w k
theorem ref_VarI (w : World) (A : Option Addr) (c : Nat) (l : List Int) (n : Int) (hC : Kd.C (Kd.int .u8) w A l.length l) (hc : l.length ≤ c) (hl : l.length ≤ 60000) (h0 : 0 ≤ n) (h1 : n ≤ 9007199254740991) :
    Calls Tryd.prog 77 #[.slice A l.length c, .int .u64 n] w fun en w' => ∃ v, en = .returned v ∧ Kd.R (Kd.int .u8) 5 w' w.heap.size (fun _ => True) v (l ++ vEnc n.toNat) ∧ Below w.heap.size w w' := by
  have h := ref_Varint w A c l n.toNat hC hc (by omega) (by omega)
  rwa [Int.toNat_of_nonneg h0] at h
set_option maxRecDepth 20000 in
set_option maxHeartbeats 400000 in
theorem ref_body1 (w : World) (A B : Option Addr) (c d : Nat) (v l o : Int) (e : Ent) (es : List Ent) (hv : 0 ≤ v ∧ v ≤ 9007199254740991) (hl : 0 ≤ l ∧ l ≤ 9007199254740991) :
    Calls Tryd.prog 39 #[recV ⟨1, v, l, o, e, es⟩ (.slice A e.f2.f4.length c) (.slice B es.length d)] w fun en w' => ∃ y, en = .returned y ∧ Kd.R (Kd.int .u8) 5 w' w.heap.size (fun _ => True) y (body ⟨1, v, l, o, e, es⟩) ∧ Below w.heap.size w w' := by
  have HB0 := Aside0.mk (below_alloc (Below.refl w.heap.size w) (.cells (recC ⟨1, v, l, o, e, es⟩ (.slice A e.f2.f4.length c) (.slice B es.length d)) 41))
  have HX0 := Aside0.mk (blk_new w (.cells (recC ⟨1, v, l, o, e, es⟩ (.slice A e.f2.f4.length c) (.slice B es.length d)) 41))
  have HBO := Aside0.mk (body_1 v l o e es)
  have HV := Aside0.mk hv
  have HL := Aside0.mk hl
  have hw1 : IntKind.u64.wrap v = v := wrap_u64 _ (by omega) (by omega)
  have hw2 : IntKind.u64.wrap l = l := wrap_u64 _ (by omega) (by omega)
  clear hv hl
  go_enter Tryd.func39, Tryd.ntmps39
  go_upto_region 1 with fail
  generalize hW : w.alloc (.cells (recC ⟨1, v, l, o, e, es⟩ (.slice A e.f2.f4.length c) (.slice B es.length d)) 41) = W0 at *
  clear hW
  have q0 : W0.cell? ⟨w.heap.size, 0, none⟩ = some (.int .i64 1) := blk_cell HX0.out 0
  have hal := below_alloc (Below.refl W0.heap.size W0) (.cells #[.int .u8 1] 5)
  have HX1 := Aside0.mk (blk_below HX0.out hal)
  have HB1 := Aside0.mk (HB0.out.trans (hal.mono HB0.out.size))
  have HO1 := Aside0.mk (one_lit 5 w.heap.size W0 1 HB0.out.size)
  have q0' : (W0.alloc (.cells #[.int .u8 1] 5)).cell? ⟨w.heap.size, 0, none⟩ = some (.int .i64 1) := blk_cell HX1.out 0
  clear hal
  go_upto_region 5 with (first
    | (go_at_call 48; refine (ref_hasOp' _ 1 false rfl).mono ?_; rintro en w2 ⟨rfl, hb⟩; have HX2 := Aside0.mk (blk_below HX1.out hb); have HB2 := Aside0.mk (HB1.out.trans (hb.mono HB1.out.size)); have HO2 := Aside0.mk (Kd.R_below HO1.out hb); have q2 : w2.cell? ⟨w.heap.size, 0, none⟩ = some (.int .i64 1) := blk_cell HX2.out 0; clear hb)
    | (go_at_call 47; refine (ref_hasView' _ 1 true rfl).mono ?_; rintro en w3 ⟨rfl, hb⟩; have HX3 := Aside0.mk (blk_below HX2.out hb); have HB3 := Aside0.mk (HB2.out.trans (hb.mono HB2.out.size)); have HO3 := Aside0.mk (Kd.R_below HO2.out hb); clear hb))
  have hln : VLS w3 w.heap.size v l w3 := ⟨blk_cell HX3.out 1, blk_cell HX3.out 2, ⟨Below.refl _ _⟩⟩
  obtain ⟨row, hrow⟩ : ∃ row : List Int, row = [1] := ⟨_, rfl⟩
  obtain ⟨row2, hrow2⟩ : ∃ row2 : List Int, row2 = row ++ vEnc v.toNat := ⟨_, rfl⟩
  have hrl : row.length ≤ 11 := by rw [hrow]; simp
  have hrl2 : row2.length ≤ 21 := by
    have := vEnc_ten v.toNat (by have := HV.out; omega)
    rw [hrow2, List.length_append]
    omega
  rw [← hrow] at HO3
  obtain ⟨hc1, hr1⟩ := (Kd.R_reads' HO3.out).2
  have HR1 := Aside0.mk hr1
  have HC1 := Aside0.mk hc1
  have HVV : ∀ W : World, VLS w3 w.heap.size v l W → Calls Tryd.prog 77 #[.slice (some ⟨W0.heap.size, 0, none⟩) 1 1, .int .u64 v] W fun en w' => ∃ y, en = .returned y ∧ Kd.R (Kd.int .u8) 5 w' W.heap.size (fun _ => True) y row2 ∧ Below W.heap.size W w' := fun W h => by
    rw [hrow2]
    have hz := ref_VarI W (some ⟨W0.heap.size, 0, none⟩) 1 row v (Kd.C_below HR1.out h.2.2.out) (by rw [hrow]; exact Nat.le_refl _) (by omega) HV.out.1 HV.out.2
    have hq : row.length = 1 := by rw [hrow]; rfl
    rw [hq] at hz
    exact hz
  have HLL : ∀ (W : World) (A2 : Option Addr) (c2 : Nat), Kd.C (Kd.int .u8) W A2 row2.length row2 → row2.length ≤ c2 → Calls Tryd.prog 77 #[.slice A2 row2.length c2, .int .u64 l] W fun en w' => ∃ y, en = .returned y ∧ Kd.R (Kd.int .u8) 5 w' W.heap.size (fun _ => True) y (row2 ++ vEnc l.toNat) ∧ Below W.heap.size W w' := fun W A2 c2 h1 h2 => ref_VarI W A2 c2 row2 l h1 h2 (by omega) HL.out.1 HL.out.2
  have HROW := Aside0.mk hrow
  have HROW2 := Aside0.mk hrow2
  have HRL2 := Aside0.mk hrl2
  clear hr1 hc1 hrow hrow2 hrl hrl2
  go_region_held3 (fun w' => VLS w3 w.heap.size v l w') (first | assumption | (apply VLS.drew; assumption) | (apply VLS.next'; assumption; assumption))
    (first
      | (go_at_call_of 77 (Value.int IntKind.u64 v); refine (HVV _ ?_).mono ?_; assumption; rintro e wt ⟨y, rfl, hv, hb⟩; have hSt : VLS w3 w.heap.size v l wt := VLS.next (by assumption) hb; obtain ⟨A2, c2, e2, hc2, hr2⟩ := R_C hv; cases e2)
      | (go_at_call_of 77 (Value.int IntKind.u64 l); refine (HLL _ _ _ hr2 hc2).mono ?_; rintro e w6 ⟨y, rfl, hv2, hb2⟩))
  have hS6 : VLS w3 w.heap.size v l w6 := by assumption
  have HB6 := Aside0.mk (HB3.out.trans (hS6.2.2.out.mono HB3.out.size))
  have HX6 := Aside0.mk (blk_below HX3.out hS6.2.2.out)
  have HO6 := Aside0.mk (Kd.R_lower hv2 (show w.heap.size ≤ wt.heap.size from Nat.le_trans HB3.out.size hSt.2.2.out.size))
  have q6 : w6.cell? ⟨w.heap.size, 0, none⟩ = some (.int .i64 1) := blk_cell HX6.out 0
  have hr3 : row2 ++ vEnc l.toNat = [1] ++ vEnc v.toNat ++ vEnc l.toNat := by rw [HROW2.out, HROW.out]
  have HRL3 : Aside0 ((row2 ++ vEnc l.toNat).length ≤ 31) := ⟨by have h1 := HRL2.out; have h3 := vEnc_ten l.toNat (by have := HL.out; omega); rw [List.length_append]; omega⟩
  have HR3 := Aside0.mk hr3
  generalize row2 ++ vEnc l.toNat = row3 at *
  clear hS6 hSt hv hv2 hb hb2 hr2 hc2 hln HVV HLL hr3
  go_wp2_with fail
  go_ret
  exact ⟨_, rfl, by rw [HBO.out, ← HR3.out]; exact HO6.out, HB6.out⟩
set_option maxRecDepth 20000 in
set_option maxHeartbeats 400000 in
theorem ref_body2 (w : World) (A B : Option Addr) (c d : Nat) (v l o : Int) (e : Ent) (es : List Ent) (ho : 0 ≤ o ∧ o ≤ 9007199254740991) (hA : kLine.C w A e.f2.f4.length e.f2.f4) (hc : e.f2.f4.length ≤ c) (hs : EntS e) (hw : I64 e.f2.f3) (he : entOk e = true) :
    Calls Tryd.prog 39 #[recV ⟨2, v, l, o, e, es⟩ (.slice A e.f2.f4.length c) (.slice B es.length d)] w fun en w' => ∃ y, en = .returned y ∧ Kd.R (Kd.int .u8) 5 w' w.heap.size (fun _ => True) y (body ⟨2, v, l, o, e, es⟩) ∧ Below w.heap.size w w' := by
  have HB0 := Aside0.mk (below_alloc (Below.refl w.heap.size w) (.cells (recC ⟨2, v, l, o, e, es⟩ (.slice A e.f2.f4.length c) (.slice B es.length d)) 41))
  have HX0 := Aside0.mk (blk_new w (.cells (recC ⟨2, v, l, o, e, es⟩ (.slice A e.f2.f4.length c) (.slice B es.length d)) 41))
  have HBO := Aside0.mk (body_2 v l o e es)
  have HOP := Aside0.mk ho
  have hw3 : IntKind.u64.wrap o = o := wrap_u64 _ (by omega) (by omega)
  clear ho
  have HA := Aside0.mk hA
  have HC := Aside0.mk hc
  have HS := Aside0.mk hs
  have HW := Aside0.mk hw
  have hee : entE e = 0 := by unfold entE; rw [he]; rfl
  have her : entR e = entB e := by unfold entR; rw [he]; rfl
  have HEE := Aside0.mk hee
  have HER := Aside0.mk her
  have HEL := Aside0.mk (entB_len e he hw)
  clear hA hc hs hw he hee her
  go_enter Tryd.func39, Tryd.ntmps39
  go_upto_region 1 with fail
  generalize hW : w.alloc (.cells (recC ⟨2, v, l, o, e, es⟩ (.slice A e.f2.f4.length c) (.slice B es.length d)) 41) = W0 at *
  clear hW
  have q0 : W0.cell? ⟨w.heap.size, 0, none⟩ = some (.int .i64 2) := blk_cell HX0.out 0
  have hal := below_alloc (Below.refl W0.heap.size W0) (.cells #[.int .u8 2] 5)
  have HX1 := Aside0.mk (blk_below HX0.out hal)
  have HB1 := Aside0.mk (HB0.out.trans (hal.mono HB0.out.size))
  have HO1 := Aside0.mk (one_lit 5 w.heap.size W0 2 HB0.out.size)
  have q0' : (W0.alloc (.cells #[.int .u8 2] 5)).cell? ⟨w.heap.size, 0, none⟩ = some (.int .i64 2) := blk_cell HX1.out 0
  clear hal
  go_upto_region 7 with (first
    | (go_at_call 48; refine (ref_hasOp' _ 2 true rfl).mono ?_; rintro en w2 ⟨rfl, hb⟩; have HX2 := Aside0.mk (blk_below HX1.out hb); have HB2 := Aside0.mk (HB1.out.trans (hb.mono HB1.out.size)); have HO2 := Aside0.mk (Kd.R_below HO1.out hb); have q2 : w2.cell? ⟨w.heap.size, 0, none⟩ = some (.int .i64 2) := blk_cell HX2.out 0; have q23 : w2.cell? ⟨w.heap.size, 3, none⟩ = some (.int .i64 o) := blk_cell HX2.out 3; clear hb)
    | (go_at_call 77; refine (ref_VarI w2 (some ⟨W0.heap.size, 0, none⟩) 1 [2] o (Kd.R_reads' HO2.out).2.2 (Nat.le_refl _) (by simp) HOP.out.1 HOP.out.2).mono ?_; rintro en w4 ⟨y4, rfl, hv, hb⟩; have HX4 := Aside0.mk (blk_below HX2.out hb); have HB4 := Aside0.mk (HB2.out.trans (hb.mono HB2.out.size)); have HO4 := Aside0.mk (Kd.R_lower hv HB2.out.size); have q4 : w4.cell? ⟨w.heap.size, 0, none⟩ = some (.int .i64 2) := blk_cell HX4.out 0; clear hv hb)
    | (go_at_call 47; refine (ref_hasView' _ 2 false rfl).mono ?_; rintro en w3 ⟨rfl, hb⟩; have HX3 := Aside0.mk (blk_below HX4.out hb); have HB3 := Aside0.mk (HB4.out.trans (hb.mono HB4.out.size)); have HO3 := Aside0.mk (Kd.R_below HO4.out hb); have q3 : w3.cell? ⟨w.heap.size, 0, none⟩ = some (.int .i64 2) := blk_cell HX3.out 0; clear hb))
  have hbt := ref_entBytes w3 A c e (Kd.C_below HA.out HB3.out) HC.out HS.out HW.out
  rw [HEE.out, HER.out] at hbt
  have HBT := Aside0.mk hbt
  obtain ⟨⟨r4, r5, r6, r7, r8, r9, r10⟩, _⟩ : (w3.cell? ⟨w.heap.size, 4, none⟩ = some (.int .i64 e.f0) ∧ w3.cell? ⟨w.heap.size, 5, none⟩ = some (.int .i64 e.f1) ∧ w3.cell? ⟨w.heap.size, 6, none⟩ = some (.int .i64 e.f2.f0) ∧ w3.cell? ⟨w.heap.size, 7, none⟩ = some (.string e.f2.f1) ∧ w3.cell? ⟨w.heap.size, 8, none⟩ = some (.int .i64 e.f2.f2) ∧ w3.cell? ⟨w.heap.size, 9, none⟩ = some (.int .i64 e.f2.f3) ∧ w3.cell? ⟨w.heap.size, 10, none⟩ = some (.slice A e.f2.f4.length c)) ∧ True := ⟨⟨blk_cell HX3.out 4, blk_cell HX3.out 5, blk_cell HX3.out 6, blk_cell HX3.out 7, blk_cell HX3.out 8, blk_cell HX3.out 9, blk_cell HX3.out 10⟩, trivial⟩
  clear hbt HX0 HX1 HX2 HX4 HB0 HB1 HB2 HB4 HO1 HO2 HO4
  go_upto_region 9 with (first
    | (go_at_call 78; refine HBT.out.mono ?_; rintro en w5 ⟨y5, rfl, hv, hb⟩; obtain ⟨A2, c2, e2, hc2, hr2⟩ := R_C hv; subst e2; have HR5 := Aside0.mk hr2; have HO5 := Aside0.mk (Kd.R_below HO3.out hb); have HX5 := Aside0.mk (blk_below HX3.out hb); have HB5 := Aside0.mk (HB3.out.trans (hb.mono HB3.out.size)); clear hv hb hr2 hc2)
    | ((with_reducible refine gate_builtin (b := .append) (xs := #[.tmp 41, .tmp 42]) rfl ?_); at_builtin; refine Kd.R_append_rows (Kd.int .u8) (w0 := w) w.heap.size rfl (.tmp 41) (.tmp 42) 22 5 (.int .u8 0) 1 rfl Tryd.underlying22 infou8 rfl (by decide) (by omega) (y4) ([2] ++ vEnc o.toNat) (entB e) _ _ _ (fun _ => True) (fun _ => False) rfl rfl ?aO ?aR (fun _ _ h => h) (fun _ h => h.elim) ?aF ?aB ?aS ?aL ?_; (case aR => repeat (first | exact HR5.out | (with_reducible refine Kd.C_alloc ?_ _) | (with_reducible refine Kd.C_drewN ?_ _) | (with_reducible refine Kd.C_drew ?_))); (case aB => exact (by repeat (first | (with_reducible first | exact HB5.out | apply below_alloc | apply pw_below_drewN | apply below_drew1) | exact HB5.out))); (case aF => exact (fun _ _ => trivial)); (case aO => exact (by (with_reducible repeat (first | apply Kd.R_alloc | apply Kd.R_drewN | apply Kd.R_drew)); exact HO5.out)); (case aS => exact (below_size (by repeat (first | (with_reducible first | exact HB5.out | apply below_alloc | apply pw_below_drewN | apply below_drew1) | exact HB5.out)))); (case aL => (have h2 := HEL.out; have h1 := vEnc_ten o.toNat (by have := HOP.out; omega); simp only [List.length_append, List.length_cons, List.length_nil]; omega)); intro v7 w7 hv hw hg7 hat7; have HG7 := Aside0.mk hg7; clear hg7 hat7))
  have hne : ∀ k, some k = y4.ownBlock → k ≠ w.heap.size := fun k hk e => by
    obtain ⟨cl, hcl⟩ := Kd.R_typed HO5.out k hk.symm
    exact blk_ne hcl HX5.out (by decide) e
  have q7 : w7.cell? ⟨w.heap.size, 0, none⟩ = some (.int .i64 2) := blk_cell (blk_grown HX5.out HG7.out (fun e => hne _ e rfl)) 0
  have HV7 := Aside0.mk hv
  have HW7 := Aside0.mk hw
  clear hv hw hne
  go_wp2_with fail
  go_ret
  exact ⟨_, rfl, by rw [HBO.out]; exact HV7.out, HW7.out⟩
set_option maxRecDepth 20000 in
set_option maxHeartbeats 400000 in
theorem ref_body3 (w : World) (A B : Option Addr) (c d : Nat) (v l o : Int) (e : Ent) (es : List Ent) (ho : 0 ≤ o ∧ o ≤ 9007199254740991) (hv : 0 ≤ v ∧ v ≤ 9007199254740991) (hl : 0 ≤ l ∧ l ≤ 9007199254740991) (hB : kEnt.C w B es.length es) (hd : es.length ≤ d) (hs : ∀ x ∈ es, EntS x) (hw : ∀ x ∈ es, I64 x.f2.f3) (he : es.all entOk = true) (hn : es.length ≤ 24) :
    Calls Tryd.prog 39 #[recV ⟨3, v, l, o, e, es⟩ (.slice A e.f2.f4.length c) (.slice B es.length d)] w fun en w' => ∃ y, en = .returned y ∧ Kd.R (Kd.int .u8) 5 w' w.heap.size (fun _ => True) y (body ⟨3, v, l, o, e, es⟩) ∧ Below w.heap.size w w' := by
  have HB0 := Aside0.mk (below_alloc (Below.refl w.heap.size w) (.cells (recC ⟨3, v, l, o, e, es⟩ (.slice A e.f2.f4.length c) (.slice B es.length d)) 41))
  have HX0 := Aside0.mk (blk_new w (.cells (recC ⟨3, v, l, o, e, es⟩ (.slice A e.f2.f4.length c) (.slice B es.length d)) 41))
  have HBO := Aside0.mk (body_3 v l o e es)
  have HOP := Aside0.mk ho
  have hw3 : IntKind.u64.wrap o = o := wrap_u64 _ (by omega) (by omega)
  clear ho
  have HV := Aside0.mk hv
  have HL := Aside0.mk hl
  have hw1 : IntKind.u64.wrap v = v := wrap_u64 _ (by omega) (by omega)
  have hw2 : IntKind.u64.wrap l = l := wrap_u64 _ (by omega) (by omega)
  clear hv hl
  have HB := Aside0.mk hB
  have HD := Aside0.mk hd
  have HS := Aside0.mk hs
  have HW := Aside0.mk hw
  have HN := Aside0.mk hn
  have hee : rowE es = 0 := by unfold rowE; rw [he]; rfl
  have her : rowR es = rowB es := by unfold rowR; rw [he]; rfl
  have HEE := Aside0.mk hee
  have HER := Aside0.mk her
  have HEL := Aside0.mk (rowB_len es he hw hn)
  clear hB hd hs hw he hn hee her
  go_enter Tryd.func39, Tryd.ntmps39
  go_upto_region 1 with fail
  generalize hW : w.alloc (.cells (recC ⟨3, v, l, o, e, es⟩ (.slice A e.f2.f4.length c) (.slice B es.length d)) 41) = W0 at *
  clear hW
  have q0 : W0.cell? ⟨w.heap.size, 0, none⟩ = some (.int .i64 3) := blk_cell HX0.out 0
  have hal := below_alloc (Below.refl W0.heap.size W0) (.cells #[.int .u8 3] 5)
  have HX1 := Aside0.mk (blk_below HX0.out hal)
  have HB1 := Aside0.mk (HB0.out.trans (hal.mono HB0.out.size))
  have HO1 := Aside0.mk (one_lit 5 w.heap.size W0 3 HB0.out.size)
  have q0' : (W0.alloc (.cells #[.int .u8 3] 5)).cell? ⟨w.heap.size, 0, none⟩ = some (.int .i64 3) := blk_cell HX1.out 0
  clear hal
  go_upto_region 5 with (first
    | (go_at_call 48; refine (ref_hasOp' _ 3 true rfl).mono ?_; rintro en w2 ⟨rfl, hb⟩; have HX2 := Aside0.mk (blk_below HX1.out hb); have HB2 := Aside0.mk (HB1.out.trans (hb.mono HB1.out.size)); have HO2 := Aside0.mk (Kd.R_below HO1.out hb); have q2 : w2.cell? ⟨w.heap.size, 0, none⟩ = some (.int .i64 3) := blk_cell HX2.out 0; have q23 : w2.cell? ⟨w.heap.size, 3, none⟩ = some (.int .i64 o) := blk_cell HX2.out 3; clear hb)
    | (go_at_call 77; refine (ref_VarI w2 (some ⟨W0.heap.size, 0, none⟩) 1 [3] o (Kd.R_reads' HO2.out).2.2 (Nat.le_refl _) (by simp) HOP.out.1 HOP.out.2).mono ?_; rintro en w4 ⟨y4, rfl, hv, hb⟩; have HX4 := Aside0.mk (blk_below HX2.out hb); have HB4 := Aside0.mk (HB2.out.trans (hb.mono HB2.out.size)); have HO4 := Aside0.mk (Kd.R_lower hv HB2.out.size); have q4 : w4.cell? ⟨w.heap.size, 0, none⟩ = some (.int .i64 3) := blk_cell HX4.out 0; clear hv hb)
    | (go_at_call 47; refine (ref_hasView' _ 3 true rfl).mono ?_; rintro en w3 ⟨rfl, hb⟩; have HX3 := Aside0.mk (blk_below HX4.out hb); have HB3 := Aside0.mk (HB4.out.trans (hb.mono HB4.out.size)); have HO3 := Aside0.mk (Kd.R_below HO4.out hb); clear hb))
  have hln : VLS w3 w.heap.size v l w3 := ⟨blk_cell HX3.out 1, blk_cell HX3.out 2, ⟨Below.refl _ _⟩⟩
  obtain ⟨row, hrow⟩ : ∃ row : List Int, row = [3] ++ vEnc o.toNat := ⟨_, rfl⟩
  obtain ⟨row2, hrow2⟩ : ∃ row2 : List Int, row2 = row ++ vEnc v.toNat := ⟨_, rfl⟩
  have hrl : row.length ≤ 11 := by rw [hrow]; have := vEnc_ten o.toNat (by have := HOP.out; omega); simp only [List.length_append, List.length_cons, List.length_nil]; omega
  have hrl2 : row2.length ≤ 21 := by
    have := vEnc_ten v.toNat (by have := HV.out; omega)
    rw [hrow2, List.length_append]
    omega
  rw [← hrow] at HO3
  obtain ⟨A1, c1, e1, hc1, hr1⟩ := R_C HO3.out
  cases e1
  have HR1 := Aside0.mk hr1
  have HC1 := Aside0.mk hc1
  have HVV : ∀ W : World, VLS w3 w.heap.size v l W → Calls Tryd.prog 77 #[.slice A1 row.length c1, .int .u64 v] W fun en w' => ∃ y, en = .returned y ∧ Kd.R (Kd.int .u8) 5 w' W.heap.size (fun _ => True) y row2 ∧ Below W.heap.size W w' := fun W h => by
    rw [hrow2]
    have hz := ref_VarI W A1 c1 row v (Kd.C_below HR1.out h.2.2.out) HC1.out (by omega) HV.out.1 HV.out.2
    skip
    exact hz
  have HLL : ∀ (W : World) (A2 : Option Addr) (c2 : Nat), Kd.C (Kd.int .u8) W A2 row2.length row2 → row2.length ≤ c2 → Calls Tryd.prog 77 #[.slice A2 row2.length c2, .int .u64 l] W fun en w' => ∃ y, en = .returned y ∧ Kd.R (Kd.int .u8) 5 w' W.heap.size (fun _ => True) y (row2 ++ vEnc l.toNat) ∧ Below W.heap.size W w' := fun W A2 c2 h1 h2 => ref_VarI W A2 c2 row2 l h1 h2 (by omega) HL.out.1 HL.out.2
  have HROW := Aside0.mk hrow
  have HROW2 := Aside0.mk hrow2
  have HRL2 := Aside0.mk hrl2
  clear hr1 hc1 hrow hrow2 hrl hrl2
  go_region_held3 (fun w' => VLS w3 w.heap.size v l w') (first | assumption | (apply VLS.drew; assumption) | (apply VLS.next'; assumption; assumption))
    (first
      | (go_at_call_of 77 (Value.int IntKind.u64 v); refine (HVV _ ?_).mono ?_; assumption; rintro e wt ⟨y, rfl, hv, hb⟩; have hSt : VLS w3 w.heap.size v l wt := VLS.next (by assumption) hb; obtain ⟨A2, c2, e2, hc2, hr2⟩ := R_C hv; cases e2)
      | (go_at_call_of 77 (Value.int IntKind.u64 l); refine (HLL _ _ _ hr2 hc2).mono ?_; rintro e w6 ⟨y, rfl, hv2, hb2⟩))
  have hS6 : VLS w3 w.heap.size v l w6 := by assumption
  have HB6 := Aside0.mk (HB3.out.trans (hS6.2.2.out.mono HB3.out.size))
  have HX6 := Aside0.mk (blk_below HX3.out hS6.2.2.out)
  have HO6 := Aside0.mk (Kd.R_lower hv2 (show w.heap.size ≤ wt.heap.size from Nat.le_trans HB3.out.size hSt.2.2.out.size))
  have q6 : w6.cell? ⟨w.heap.size, 0, none⟩ = some (.int .i64 3) := blk_cell HX6.out 0
  have hr3 : row2 ++ vEnc l.toNat = [3] ++ vEnc o.toNat ++ vEnc v.toNat ++ vEnc l.toNat := by rw [HROW2.out, HROW.out]
  have HRL3 : Aside0 ((row2 ++ vEnc l.toNat).length ≤ 31) := ⟨by have h1 := HRL2.out; have h3 := vEnc_ten l.toNat (by have := HL.out; omega); rw [List.length_append]; omega⟩
  have HR3 := Aside0.mk hr3
  generalize row2 ++ vEnc l.toNat = row3 at *
  clear hS6 hSt hv hv2 hb hb2 hr2 hc2 hln HVV HLL hr3
  have hbt := ref_Row w6 B d es (Kd.C_below HB.out HB6.out) HD.out HS.out HW.out (by have := HN.out; omega)
  rw [HEE.out, HER.out] at hbt
  have HBT := Aside0.mk hbt
  have r11 : w6.cell? ⟨w.heap.size, 11, none⟩ = some (.slice B es.length d) := blk_cell HX6.out 11
  clear hbt HX0 HX1 HX2 HX4 HX3 HB0 HB1 HB2 HB4 HB3 HO1 HO2 HO4 HO3 HR1 HC1
  go_wp2_with (first
    | (go_at_call 79; refine HBT.out.mono ?_; rintro en w8 ⟨y8, rfl, hv, hb⟩; obtain ⟨A2, c2, e2, hc2, hr2⟩ := R_C hv; subst e2; obtain ⟨A3, c3, e3, hc3, hr3⟩ := R_C (Kd.R_below HO6.out hb); subst e3; have HTX := Aside0.mk (ref_Text w8 A3 c3 row3 A2 c2 (rowB es) hr3 hc3 hr2 hc2 (by have h1 := HRL3.out; have h2 := HEL.out; omega)); have HB8 := Aside0.mk (HB6.out.trans (hb.mono HB6.out.size)); clear hv hb hr2 hc2 hr3 hc3)
    | (go_at_call 80; refine HTX.out.mono ?_; rintro en w9 ⟨y9, rfl, hv, hb⟩; have HO9 := Aside0.mk (Kd.R_lower hv HB8.out.size); have HB9 := Aside0.mk (HB8.out.trans (hb.mono HB8.out.size)); clear hv hb))
  go_ret
  exact ⟨_, rfl, by rw [HBO.out, ← HR3.out]; exact HO9.out, HB9.out⟩
end Go.Proofs.YtmeblifbkhpdnaaDoor.K
namespace Go.Proofs.YtmeblifbkhpdnaaDoor.K
set_option linter.unusedVariables false
set_option linter.unusedSimpArgs false
open Go.RowKit Go.Proofs.YtmeblifbkhpdnaaDoorW.PrintWords Go.Proofs.YtmeblifbkhpdnaaDoorW.PrintLast Go.Proofs.YtmeblifbkhpdnaaDoorW.PrintMore
theorem ref_recCheck (w : World) (A B : Option Addr) (c d : Nat) (x : Rec) (hA : kLine.C w A x.f4.f2.f4.length x.f4.f2.f4) (hc : x.f4.f2.f4.length ≤ c) (hB : kEnt.C w B x.f5.length x.f5) (hd : x.f5.length ≤ d) (h4 : EntS x.f4) (hs : ∀ y ∈ x.f5, EntS y) (hw : RecW x) :
    Calls Tryd.prog 18 #[recV x (.slice A x.f4.f2.f4.length c) (.slice B x.f5.length d)] w fun en w' => en = .returned (.int .i64 (recE x)) ∧ Below w.heap.size w w' := by
  obtain ⟨k, hk⟩ := (recE_ref x hB.2.1 h4 hs hw).some
  exact gimbalref14_Check.calls k x.f0 x.f1 x.f2 x.f3 x.f4.f0 x.f4.f1 x.f4.f2.f0 x.f4.f2.f1 x.f4.f2.f2 x.f4.f2.f3 A c x.f4.f2.f4 B d x.f5 _ w hA hc hB hd hk
theorem ref_body (w : World) (A B : Option Addr) (c d : Nat) (x : Rec) (hok : recOk x = true) (hA : kLine.C w A x.f4.f2.f4.length x.f4.f2.f4) (hc : x.f4.f2.f4.length ≤ c) (hB : kEnt.C w B x.f5.length x.f5) (hd : x.f5.length ≤ d) (h4 : EntS x.f4) (hs : ∀ y ∈ x.f5, EntS y) (hw : RecW x) :
    Calls Tryd.prog 39 #[recV x (.slice A x.f4.f2.f4.length c) (.slice B x.f5.length d)] w fun en w' => ∃ y, en = .returned y ∧ Kd.R (Kd.int .u8) 5 w' w.heap.size (fun _ => True) y (body x) ∧ Below w.heap.size w w' := by
  obtain ⟨h0, hn⟩ := recOk_nums x hok
  have hrows := recOk_rows x hok
  have hent := recOk_ent x hok
  obtain ⟨k, v, l, o, e, es⟩ := x
  have v0 := numOk_range (hn 0 (by omega))
  have v1 := numOk_range (hn 1 (by omega))
  have v2 := numOk_range (hn 2 (by omega))
  replace v0 : 0 ≤ o ∧ o ≤ 9007199254740991 := v0
  replace v1 : 0 ≤ v ∧ v ≤ 9007199254740991 := v1
  replace v2 : 0 ≤ l ∧ l ≤ 9007199254740991 := v2
  rcases rHas_cases k with ⟨h, hr⟩ | ⟨rfl, hr⟩ | ⟨rfl, hr⟩ | ⟨rfl, hr⟩
  · exact absurd hr h0
  · exact ref_body1 w A B c d v l o e es v1 v2
  · exact ref_body2 w A B c d v l o e es v0 hA hc h4 hw.1 (hent (by show (bits .and .i64 (rHas 2) 4 != 0) = true; decide))
  · exact ref_body3 w A B c d v l o e es v0 v1 v2 hB hd hs hw.2 hrows.1 hrows.2
set_option maxRecDepth 20000 in
set_option maxHeartbeats 4000000 in
theorem ref_recBytes (w : World) (A B : Option Addr) (c d : Nat) (x : Rec) (hA : kLine.C w A x.f4.f2.f4.length x.f4.f2.f4) (hc : x.f4.f2.f4.length ≤ c) (hB : kEnt.C w B x.f5.length x.f5) (hd : x.f5.length ≤ d) (h4 : EntS x.f4) (hs : ∀ y ∈ x.f5, EntS y) (hw : RecW x) :
    Calls Tryd.prog 16 #[recV x (.slice A x.f4.f2.f4.length c) (.slice B x.f5.length d)] w fun en w' => ∃ v, en = .returned (.tuple #[v, .int .i64 (recE x)]) ∧ Kd.R (Kd.int .u8) 5 w' w.heap.size (fun _ => True) v (recR x) ∧ Below w.heap.size w w' := by
  have HB0 := Aside0.mk (below_alloc (Below.refl w.heap.size w) (.cells (recC x (.slice A x.f4.f2.f4.length c) (.slice B x.f5.length d)) 41))
  have HX0 := Aside0.mk (blk_new w (.cells (recC x (.slice A x.f4.f2.f4.length c) (.slice B x.f5.length d)) 41))
  have HCK := Aside0.mk (ref_recCheck _ A B c d x (Kd.C_below hA HB0.out) hc (Kd.C_below hB HB0.out) hd h4 hs hw)
  have HBD := Aside0.mk (fun W (hb : Below w.heap.size w W) hok => ref_body W A B c d x hok (Kd.C_below hA hb) hc (Kd.C_below hB hb) hd h4 hs hw)
  have HW := Aside0.mk hw
  clear hA hc hB hd h4 hs hw
  have hE : recE x = if recOk x then 0 else 2 := rfl
  have hR : recR x = if recOk x then recB x else [] := rfl
  cases hok : recOk x
  · rw [hok] at hE hR
    simp only [Bool.false_eq_true, if_false] at hE hR
    rw [hE] at HCK
    have HE := Aside0.mk hE
    have HR := Aside0.mk hR
    clear hE hR hok HBD HW
    go_enter Tryd.func16, Tryd.ntmps16
    go_wp2_with (first | (go_at_call 18; refine HCK.out.mono ?_; rintro e w' ⟨rfl, hb⟩; have HB2 := Aside0.mk (HB0.out.trans (hb.mono HB0.out.size)); clear hb))
    go_ret2
    exact ⟨_, by rw [HE.out]; rfl, by rw [HR.out]; exact Kd.R_nil _ _ _ _ _, HB2.out⟩
  · rw [hok] at hE hR
    simp only [if_true] at hE hR
    rw [hE] at HCK
    have HE := Aside0.mk hE
    have HR := Aside0.mk hR
    have HBL := Aside0.mk (body_len x hok HW.out)
    have HBD2 := Aside0.mk (fun W hb => HBD.out W hb hok)
    have hrb : recB x = sealed (body x) ++ beB 4 (crcI (sealed (body x))).toNat := rfl
    have HRB := Aside0.mk hrb
    generalize body x = row3 at *
    clear hE hR hok HBD HW hrb
    go_enter Tryd.func16, Tryd.ntmps16
    go_upto_region 5 with (first
      | (go_at_call 18; refine HCK.out.mono ?_; rintro e w1 ⟨rfl, hb⟩; have HB1 := Aside0.mk (HB0.out.trans (hb.mono HB0.out.size)); have HX1 := Aside0.mk (blk_below HX0.out hb); have q0 := blk_cell HX1.out 0; have q1 := blk_cell HX1.out 1; have q2 := blk_cell HX1.out 2; have q3 := blk_cell HX1.out 3; have q4 := blk_cell HX1.out 4; have q5 := blk_cell HX1.out 5; have q6 := blk_cell HX1.out 6; have q7 := blk_cell HX1.out 7; have q8 := blk_cell HX1.out 8; have q9 := blk_cell HX1.out 9; have q10 := blk_cell HX1.out 10; have q11 := blk_cell HX1.out 11; simp only [List.getElem?_toArray, List.getElem?_cons_zero, List.getElem?_cons_succ] at q0 q1 q2 q3 q4 q5 q6 q7 q8 q9 q10 q11; clear hb)
      | (go_at_call 39; refine (HBD2.out w1 HB1.out).mono ?_; rintro e wc ⟨v, rfl, hv, hb⟩; have HB := Aside0.mk (HB1.out.trans (hb.mono HB1.out.size)); have HO := Aside0.mk (Kd.R_lower hv HB1.out.size); clear hv hb q0 q1 q2 q3 q4 q5 q6 q7 q8 q9 q10 q11))
    clear HB0 HX0 HB1 HX1 HCK HBD2
    obtain ⟨A1, c1, e1, hc1, hr1⟩ := R_C HO.out
    cases e1
    have HR1 := Aside0.mk hr1
    have hw1 : IntKind.u64.wrap (row3.length : Int) = (row3.length : Int) := wrap_u64_nat _ (by have := HBL.out; omega)
    obtain ⟨n2, hn2⟩ : ∃ n2 : Nat, n2 = 65535 - row3.length := ⟨_, rfl⟩
    have e2 : (65535 : Int) - (row3.length : Int) = (n2 : Int) := by have := HBL.out; omega
    have hw2 : IntKind.u64.wrap (n2 : Int) = (n2 : Int) := wrap_u64_nat _ (by omega)
    have HN2 := Aside0.mk hn2
    have HN2L := Aside0.mk (show n2 < 256 ^ 2 by simp; omega)
    have hp1 : Calls Tryd.prog 40 #[.slice none 0 0, .int .i64 16, .int .u64 (row3.length : Int)] wc fun en w' => ∃ v, en = .returned (.tuple #[v, .int .i64 0]) ∧ Kd.R (Kd.int .u8) 5 w' wc.heap.size (fun _ => True) v (beB 2 row3.length) ∧ Below wc.heap.size wc w' :=
      ref_Put 2 (.inr (.inl rfl)) wc none 0 [] row3.length (Kd.C_nil _ _) (Nat.le_refl _) (by simp) (by have := HBL.out; simp; omega) 16 rfl
    have HP1 := Aside0.mk hp1
    clear hr1 hc1 hp1 hn2
    go_wp2_with (first
      | (go_at_call_of 40 (Value.slice none 0 0); refine HP1.out.mono ?_; rintro en w2 ⟨v, rfl, hv, hb⟩; obtain ⟨A2, c2, e3, hc2, hr2⟩ := R_C hv; subst e3; have HB2 := Aside0.mk (HB.out.trans (hb.mono HB.out.size)); have HR2 := Aside0.mk (Kd.C_below HR1.out hb); have HP2 := Aside0.mk (ref_Put 2 (.inr (.inl rfl)) w2 A2 c2 (beB 2 row3.length) n2 hr2 hc2 (by rw [beB_len]; omega) HN2L.out 16 rfl); clear hv hb hr2 hc2)
      | (go_at_call_of 40 (Value.slice A2 (beB 2 row3.length).length c2); refine HP2.out.mono ?_; rintro en w3 ⟨v3, rfl, hv, hb⟩; have HO3 := Aside0.mk (Kd.R_lower hv HB2.out.size); have HB3 := Aside0.mk (HB2.out.trans (hb.mono HB2.out.size)); have HR3 := Aside0.mk (Kd.C_below HR2.out hb); clear hv hb)
      | ((with_reducible refine gate_builtin (b := .append) (xs := #[.tmp 31, .tmp 32]) rfl ?_); at_builtin; refine Kd.R_append_rows (Kd.int .u8) (w0 := w) w.heap.size rfl (.tmp 31) (.tmp 32) 22 5 (.int .u8 0) 1 rfl Tryd.underlying22 infou8 rfl (by decide) (by omega) (v3) (beB 2 row3.length ++ beB 2 n2) (row3) _ _ _ (fun _ => True) (fun _ => False) rfl rfl ?aO ?aR (fun _ _ h => h) (fun _ h => h.elim) ?aF ?aB ?aS ?aL ?_; (case aR => repeat (first | exact HR3.out | (with_reducible refine Kd.C_alloc ?_ _) | (with_reducible refine Kd.C_drewN ?_ _) | (with_reducible refine Kd.C_drew ?_))); (case aB => exact (by repeat (first | (with_reducible first | exact HB3.out | apply below_alloc | apply pw_below_drewN | apply below_drew1) | exact HB3.out))); (case aF => exact (fun _ _ => trivial)); (case aO => exact (by (with_reducible repeat (first | apply Kd.R_alloc | apply Kd.R_drewN | apply Kd.R_drew)); exact HO3.out)); (case aS => exact (below_size (by repeat (first | (with_reducible first | exact HB3.out | apply below_alloc | apply pw_below_drewN | apply below_drew1) | exact HB3.out)))); (case aL => (have h1 := HBL.out; simp only [List.length_append, beB_len]; omega)); intro v7 w7 hv hw hg7 hat7; clear hg7 hat7)
      | (go_at_call 31; obtain ⟨L, hL⟩ : ∃ L, L = beB 2 row3.length ++ beB 2 n2 ++ row3 := ⟨_, rfl⟩; rw [← hL] at hv; have HLL := Aside0.mk hL; have hll : L.length ≤ 4600 := (by have h1 := HBL.out; rw [hL]; simp only [List.length_append, beB_len]; omega); clear hL; obtain ⟨A5, c5, e5, hc5, hr5⟩ := R_C hv; subst e5; refine (ref_Crc _ A5 c5 L hr5).mono ?_; rintro en w8 ⟨rfl, hb⟩; have HB8 := Aside0.mk (hw.trans (hb.mono hw.size)); have hcr := crcI_range L; have hcw : IntKind.u64.wrap (crcI L) = crcI L := wrap_u64 _ (by omega) (by omega); have hp3 := ref_Put 4 (.inr (.inr rfl)) w8 A5 c5 L (crcI L).toNat (Kd.C_below hr5 hb) hc5 (by omega) (by simp; omega) 32 rfl; rw [Int.toNat_of_nonneg hcr.1] at hp3; have HP3 := Aside0.mk hp3; clear hv hw hb hr5 hc5 hcr hp3 hll)
      | (go_at_call 40; refine HP3.out.mono ?_; rintro en w9 ⟨v9, rfl, hv, hb⟩; have HO9 := Aside0.mk (Kd.R_lower hv HB8.out.size); have HB9 := Aside0.mk (HB8.out.trans (hb.mono HB8.out.size)); clear hv hb))
    go_ret2
    refine ⟨_, by rw [HE.out]; rfl, ?_, HB9.out⟩
    have h := HO9.out
    have hl : L = sealed row3 := by rw [HLL.out, HN2.out]; rfl
    rw [hl] at h
    rw [HR.out, HRB.out]
    exact h
theorem ref_recSame (w : World) (A B : Option Addr) (c d : Nat) (a : Rec) (A' B' : Option Addr) (c' d' : Nat) (b : Rec) (hA : kLine.C w A a.f4.f2.f4.length a.f4.f2.f4) (hc : a.f4.f2.f4.length ≤ c) (hB : kEnt.C w B a.f5.length a.f5) (hd : a.f5.length ≤ d)
    (hA' : kLine.C w A' b.f4.f2.f4.length b.f4.f2.f4) (hc' : b.f4.f2.f4.length ≤ c') (hB' : kEnt.C w B' b.f5.length b.f5) (hd' : b.f5.length ≤ d') (hs : ∀ y ∈ a.f5, EntS y) :
    Calls Tryd.prog 20 #[recV a (.slice A a.f4.f2.f4.length c) (.slice B a.f5.length d), recV b (.slice A' b.f4.f2.f4.length c') (.slice B' b.f5.length d')] w fun en w' => en = .returned (.bool (sameRec a b)) ∧ Below w.heap.size w w' := by
  obtain ⟨k, hk⟩ := (sameRec_ref a b hB.2.1 hA.2.1 (fun x hx => (hs x hx).1)).some
  exact gimbalref14_Same.calls k _ _ _ _ _ _ _ _ _ _ A c _ B d _ _ _ _ _ _ _ _ _ _ _ A' c' _ B' d' _ _ w hA hc hB hd hA' hc' hB' hd' hk
end Go.Proofs.YtmeblifbkhpdnaaDoor.K
namespace Go.Proofs.YtmeblifbkhpdnaaDoor.K
end Go.Proofs.YtmeblifbkhpdnaaDoor.K
namespace Go.Proofs.YtmeblifbkhpdnaaDoor.K
set_option linter.unusedVariables false
set_option linter.unusedSimpArgs false
open Go.RowKit Go.Proofs.YtmeblifbkhpdnaaDoorW.PrintWords Go.Proofs.YtmeblifbkhpdnaaDoorW.PrintLast Go.Proofs.YtmeblifbkhpdnaaDoorW.PrintMore
attribute [local go_sem] max2_int min2_int
section
variable {W : World} {b : Nat}
theorem put12_to {y0 y1 y2 y3 y4 y5 y6 y7 y8 y9 y10 y11 v0 v1 v2 v3 v4 v5 v6 v7 v8 v9 v10 v11 : Value} {t : TypeId} (h : W.heap[b]? = some (.cells #[y0, y1, y2, y3, y4, y5, y6, y7, y8, y9, y10, y11] t (0, 0))) : (put12 W b v0 v1 v2 v3 v4 v5 v6 v7 v8 v9 v10 v11).heap[b]? = some (.cells #[v0, v1, v2, v3, v4, v5, v6, v7, v8, v9, v10, v11] t (0, 0)) := by
  have h0 := blk_put h 0 v0 (cs' := #[v0, y1, y2, y3, y4, y5, y6, y7, y8, y9, y10, y11]) rfl
  have h1 := blk_put h0 1 v1 (cs' := #[v0, v1, y2, y3, y4, y5, y6, y7, y8, y9, y10, y11]) rfl
  have h2 := blk_put h1 2 v2 (cs' := #[v0, v1, v2, y3, y4, y5, y6, y7, y8, y9, y10, y11]) rfl
  have h3 := blk_put h2 3 v3 (cs' := #[v0, v1, v2, v3, y4, y5, y6, y7, y8, y9, y10, y11]) rfl
  have h4 := blk_put h3 4 v4 (cs' := #[v0, v1, v2, v3, v4, y5, y6, y7, y8, y9, y10, y11]) rfl
  have h5 := blk_put h4 5 v5 (cs' := #[v0, v1, v2, v3, v4, v5, y6, y7, y8, y9, y10, y11]) rfl
  have h6 := blk_put h5 6 v6 (cs' := #[v0, v1, v2, v3, v4, v5, v6, y7, y8, y9, y10, y11]) rfl
  have h7 := blk_put h6 7 v7 (cs' := #[v0, v1, v2, v3, v4, v5, v6, v7, y8, y9, y10, y11]) rfl
  have h8 := blk_put h7 8 v8 (cs' := #[v0, v1, v2, v3, v4, v5, v6, v7, v8, y9, y10, y11]) rfl
  have h9 := blk_put h8 9 v9 (cs' := #[v0, v1, v2, v3, v4, v5, v6, v7, v8, v9, y10, y11]) rfl
  have h10 := blk_put h9 10 v10 (cs' := #[v0, v1, v2, v3, v4, v5, v6, v7, v8, v9, v10, y11]) rfl
  exact blk_put h10 11 v11 (cs' := #[v0, v1, v2, v3, v4, v5, v6, v7, v8, v9, v10, v11]) rfl
end
end Go.Proofs.YtmeblifbkhpdnaaDoor.K
namespace Go.Proofs.YtmeblifbkhpdnaaDoor.K
set_option linter.unusedVariables false
set_option linter.unusedSimpArgs false
open Go.RowKit Go.Proofs.YtmeblifbkhpdnaaDoorW.PrintWords Go.Proofs.YtmeblifbkhpdnaaDoorW.PrintLast Go.Proofs.YtmeblifbkhpdnaaDoorW.PrintMore
attribute [local go_sem] max2_int min2_int
section
variable {P : Program} {md : Region.Mode} {ops : Array Oper} {Q : Exit → Act → World → Prop} {S : World → Prop}
theorem wpAnyH_last {i : Nat} {o : Oper} {fuel : Nat} {listed : Array Bool} {a : Act} {w : World} (hr : Region.ready md ops listed = [i]) (ho : ops[i]? = some o) (hn : Region.ready md ops (listed.setIfInBounds i true) = []) (hS : ∀ w, S w)
    (hw : Region.wanted o (yielded ops a.tmps) = true) (h : ∀ K' : Act → World → Prop, Shut (∀ a w, Q .normal a w → K' a w) → Oper.wp P o a w K' Q) : wpAnyH P md ops Q S (fuel + 1) listed a w :=
  wpAnyH_ready hr (by simp) (AllReadyH.cons ho (fun K hK => by rw [if_pos hw]; exact h K (fun a w hq => hK a w (hS w) (fun _ => wpAnyH_done hn hq _))) AllReadyH.nil)
end
def cutR (x : Rec) : Rec := ⟨x.f0, x.f1, x.f2, x.f3, ⟨x.f4.f0, x.f4.f1, ⟨x.f4.f2.f0, x.f4.f2.f1, x.f4.f2.f2, x.f4.f2.f3, x.f4.f2.f4.take (min x.f4.f2.f4.length 8)⟩⟩, x.f5.take (min x.f5.length 30)⟩
theorem cut_rows {t e : TypeId} {i : TypeInfo} (ht : (Tryd.prog).underlying t = some (.slice e)) (hi : (Tryd.prog).info? e = some i) (A : Option Addr) (c n m : Nat) (q : Int) (hq : q = (m : Int)) (hm : m ≤ n) (hc : n ≤ c) (W : World) :
    (Instr.slice t (.slice A n c) none (some (.int .i64 q)) none).run Tryd.prog W = .ok (.slice A m c) W := by
  subst hq
  have hel : (Tryd.prog).elem t = e := by simp [Program.elem, ht]
  have hu : (Tryd.prog).underlying t = some (.slice ((Tryd.prog).elem t)) := by rw [hel]; exact ht
  have ha : (A.map fun x => x.add 0) = A := by cases A <;> simp [Addr.add]
  rw [run_slice_h W t A n c hu .i64 (m : Int) (by omega) (by omega), hel]
  simp [sizeOf, typeInfo, hi, sliced, Result.andThen, ha]
theorem take_min {α : Type} (l : List α) (k : Nat) : (l.take (min l.length k)).length = min l.length k := by
  rw [List.length_take]
  omega
theorem ret_cut {W : World} {b : Nat} {r : Rec} {v u : Value} {tmps : Array Value} (h : W.heap[b]? = some (.cells (recC r v u) 41 (0, 0))) (h2 : tmps.getD 2 undef = .pointer (some ⟨b, 0, none⟩)) :
    (results Tryd.f15 tmps).run Tryd.prog W = .ok (recV r v u) W :=
  results_cell_row rfl tmps W b 41 _ (0, 0) _ h2 h Tryd.underlying41 rfl (by kernel_rfl)
set_option maxRecDepth 20000 in
set_option maxHeartbeats 4000000 in
theorem law_cut (w : World) (A B : Option Addr) (c d : Nat) (x : Rec) (hc : x.f4.f2.f4.length ≤ c) (hd : x.f5.length ≤ d) (hl : x.f4.f2.f4.length ≤ maxLen) (hk : x.f5.length ≤ maxLen) :
    Calls Tryd.prog 15 #[recV x (.slice A x.f4.f2.f4.length c) (.slice B x.f5.length d)] w fun en w' => en = .returned (recV (cutR x) (.slice A (cutR x).f4.f2.f4.length c) (.slice B (cutR x).f5.length d)) ∧ Below w.heap.size w w' := by
  obtain ⟨i1, hi1⟩ : ∃ i, (Tryd.prog).info? 118 = some i := ⟨_, rfl⟩
  obtain ⟨i2, hi2⟩ : ∃ i, (Tryd.prog).info? 38 = some i := ⟨_, rfl⟩
  have e1 : min (x.f5.length : Int) 30 = ((min x.f5.length 30 : Nat) : Int) := by omega
  have e2 : min (x.f4.f2.f4.length : Int) 8 = ((min x.f4.f2.f4.length 8 : Nat) : Int) := by omega
  have hcut1 := cut_rows Tryd.underlying39 hi2 B d x.f5.length (min x.f5.length 30) _ e1 (Nat.min_le_left _ _) hd
  have hcut2 := cut_rows Tryd.underlying34 hi1 A c x.f4.f2.f4.length (min x.f4.f2.f4.length 8) _ e2 (Nat.min_le_left _ _) hc
  have HB0 := Aside0.mk (below_alloc (below_alloc (Below.refl w.heap.size w) (.cells (recC x (.slice A x.f4.f2.f4.length c) (.slice B x.f5.length d)) 41)) (.cells (#[.int .i64 0, .int .i64 0, .int .i64 0, .int .i64 0, .int .i64 0, .int .i64 0, .int .i64 0, .string ⟨#[]⟩, .int .i64 0, .int .i64 0, .slice none 0 0, .slice none 0 0]) 41))
  have hx0 := blk_alloc (blk_new w (.cells (recC x (.slice A x.f4.f2.f4.length c) (.slice B x.f5.length d)) 41)) (.cells (#[.int .i64 0, .int .i64 0, .int .i64 0, .int .i64 0, .int .i64 0, .int .i64 0, .int .i64 0, .string ⟨#[]⟩, .int .i64 0, .int .i64 0, .slice none 0 0, .slice none 0 0]) 41)
  have hq0 := blk_new (w.alloc (.cells (recC x (.slice A x.f4.f2.f4.length c) (.slice B x.f5.length d)) 41)) (.cells (#[.int .i64 0, .int .i64 0, .int .i64 0, .int .i64 0, .int .i64 0, .int .i64 0, .int .i64 0, .string ⟨#[]⟩, .int .i64 0, .int .i64 0, .slice none 0 0, .slice none 0 0]) 41)
  rw [World.size_alloc] at hq0
  have HX0 := Aside0.mk hx0
  have HQ0 := Aside0.mk hq0
  have hr : cutR x = ⟨x.f0, x.f1, x.f2, x.f3, ⟨x.f4.f0, x.f4.f1, ⟨x.f4.f2.f0, x.f4.f2.f1, x.f4.f2.f2, x.f4.f2.f3, x.f4.f2.f4.take (min x.f4.f2.f4.length 8)⟩⟩, x.f5.take (min x.f5.length 30)⟩ := rfl
  have hl4 : (cutR x).f4.f2.f4.length = min x.f4.f2.f4.length 8 := take_min _ _
  have hl5 : (cutR x).f5.length = min x.f5.length 30 := take_min _ _
  rw [hl4, hl5]
  have HCR : Aside0 (∀ (v u : Value), recC (cutR x) v u = #[.int .i64 x.f0, .int .i64 x.f1, .int .i64 x.f2, .int .i64 x.f3, .int .i64 x.f4.f0, .int .i64 x.f4.f1, .int .i64 x.f4.f2.f0, .string x.f4.f2.f1, .int .i64 x.f4.f2.f2, .int .i64 x.f4.f2.f3, v, u]) := ⟨fun _ _ => rfl⟩
  generalize cutR x = xc at *
  clear hc hd hr hl4 hl5 hi1 hi2 hx0 hq0 hl hk e1 e2
  generalize min x.f5.length 30 = m5 at *
  generalize min x.f4.f2.f4.length 8 = m4 at *
  go_enter Tryd.func15, Tryd.ntmps15
  go_upto_region 1 with fail
  generalize (w.alloc (.cells (recC x (.slice A x.f4.f2.f4.length c) (.slice B x.f5.length d)) 41)).alloc (.cells (#[.int .i64 0, .int .i64 0, .int .i64 0, .int .i64 0, .int .i64 0, .int .i64 0, .int .i64 0, .string ⟨#[]⟩, .int .i64 0, .int .i64 0, .slice none 0 0, .slice none 0 0]) 41) = W0 at *
  have q11 := blk_cell HX0.out 11
  have f11 := blk_frozen HX0.out 11
  simp only [List.getElem?_toArray, List.getElem?_cons_zero, List.getElem?_cons_succ] at q11
  go_upto_region 2 with fail
  have HX1 := Aside0.mk (blk_put HX0.out 11 (.slice B m5 d) (cs' := recC x (.slice A x.f4.f2.f4.length c) (.slice B m5 d)) rfl)
  have HQ1 := Aside0.mk ((Below.heap_setCell W0 ⟨w.heap.size, 11, none⟩ (.slice B m5 d) (w.heap.size + 1) (by show w.heap.size + 1 ≠ w.heap.size; omega)).trans HQ0.out)
  have HB1 := Aside0.mk (below_set HB0.out (Nat.le_refl w.heap.size) (j := 11) (v := .slice B m5 d))
  clear q11 f11 HX0 HQ0 HB0 hcut1
  generalize W0.setCell ⟨w.heap.size, 11, none⟩ (.slice B m5 d) = W1 at *
  have q10 := blk_cell HX1.out 10
  have f10 := blk_frozen HX1.out 10
  simp only [List.getElem?_toArray, List.getElem?_cons_zero, List.getElem?_cons_succ] at q10
  go_upto_region 3 with fail
  have HX2 := Aside0.mk (blk_put HX1.out 10 (.slice A m4 c) (cs' := recC x (.slice A m4 c) (.slice B m5 d)) rfl)
  have HQ2 := Aside0.mk ((Below.heap_setCell W1 ⟨w.heap.size, 10, none⟩ (.slice A m4 c) (w.heap.size + 1) (by show w.heap.size + 1 ≠ w.heap.size; omega)).trans HQ1.out)
  have HB2 := Aside0.mk (below_set HB1.out (Nat.le_refl w.heap.size) (j := 10) (v := .slice A m4 c))
  clear q10 f10 HX1 HQ1 HB1 hcut2
  generalize W1.setCell ⟨w.heap.size, 10, none⟩ (.slice A m4 c) = W2 at *
  obtain ⟨⟨q0, q1, q2, q3, q4, q5, q6, q7, q8, q9, q10, q11⟩, _⟩ := box12 HX2.out
  obtain ⟨⟨p0, p1, p2, p3, p4, p5, p6, p7, p8, p9, p10, p11⟩, ⟨f0, f1, f2, f3, f4, f5, f6, f7, f8, f9, f10, f11⟩⟩ := box12 HQ2.out
  go_wp2_with fail
  refine bodyPost_ret (ret_cut (r := xc) (v := .slice A m4 c) (u := .slice B m5 d) (by rw [HCR.out]; exact put12_to HQ2.out) rfl) rfl ⟨rfl, below_grownG HB2.out (put12_grown _ _ _ _ _ _ _ _ _ _ _ _ _ _) (by omega)⟩
abbrev RB2 (w0 : World) (b d : Nat) (x y : Rec) (v u s t : Value) (W : World) : Prop :=
  W.cell? ⟨b, 0, none⟩ = some (.int .i64 x.f0) ∧ W.cell? ⟨b, 1, none⟩ = some (.int .i64 x.f1) ∧ W.cell? ⟨b, 2, none⟩ = some (.int .i64 x.f2) ∧ W.cell? ⟨b, 3, none⟩ = some (.int .i64 x.f3) ∧ W.cell? ⟨b, 4, none⟩ = some (.int .i64 x.f4.f0) ∧ W.cell? ⟨b, 5, none⟩ = some (.int .i64 x.f4.f1) ∧ W.cell? ⟨b, 6, none⟩ = some (.int .i64 x.f4.f2.f0) ∧ W.cell? ⟨b, 7, none⟩ = some (.string x.f4.f2.f1) ∧ W.cell? ⟨b, 8, none⟩ = some (.int .i64 x.f4.f2.f2) ∧ W.cell? ⟨b, 9, none⟩ = some (.int .i64 x.f4.f2.f3) ∧ W.cell? ⟨b, 10, none⟩ = some (v) ∧ W.cell? ⟨b, 11, none⟩ = some (u) ∧ W.cell? ⟨d, 0, none⟩ = some (.int .i64 y.f0) ∧ W.cell? ⟨d, 1, none⟩ = some (.int .i64 y.f1) ∧ W.cell? ⟨d, 2, none⟩ = some (.int .i64 y.f2) ∧ W.cell? ⟨d, 3, none⟩ = some (.int .i64 y.f3) ∧ W.cell? ⟨d, 4, none⟩ = some (.int .i64 y.f4.f0) ∧ W.cell? ⟨d, 5, none⟩ = some (.int .i64 y.f4.f1) ∧ W.cell? ⟨d, 6, none⟩ = some (.int .i64 y.f4.f2.f0) ∧ W.cell? ⟨d, 7, none⟩ = some (.string y.f4.f2.f1) ∧ W.cell? ⟨d, 8, none⟩ = some (.int .i64 y.f4.f2.f2) ∧ W.cell? ⟨d, 9, none⟩ = some (.int .i64 y.f4.f2.f3) ∧ W.cell? ⟨d, 10, none⟩ = some (s) ∧ W.cell? ⟨d, 11, none⟩ = some (t) ∧ Aside0 (Below w0.heap.size w0 W)
theorem RB2.next {w0 W W' : World} {b d : Nat} {x y : Rec} {v u s t : Value} (h : RB2 w0 b d x y v u s t W) (hb : Below W.heap.size W W') : RB2 w0 b d x y v u s t W' := by
  obtain ⟨h0, h1, h2, h3, h4, h5, h6, h7, h8, h9, h10, h11, h12, h13, h14, h15, h16, h17, h18, h19, h20, h21, h22, h23, hL⟩ := h
  exact ⟨(hb.cell (cell_blk h0)).trans h0, (hb.cell (cell_blk h1)).trans h1, (hb.cell (cell_blk h2)).trans h2, (hb.cell (cell_blk h3)).trans h3, (hb.cell (cell_blk h4)).trans h4, (hb.cell (cell_blk h5)).trans h5, (hb.cell (cell_blk h6)).trans h6, (hb.cell (cell_blk h7)).trans h7, (hb.cell (cell_blk h8)).trans h8, (hb.cell (cell_blk h9)).trans h9, (hb.cell (cell_blk h10)).trans h10, (hb.cell (cell_blk h11)).trans h11, (hb.cell (cell_blk h12)).trans h12, (hb.cell (cell_blk h13)).trans h13, (hb.cell (cell_blk h14)).trans h14, (hb.cell (cell_blk h15)).trans h15, (hb.cell (cell_blk h16)).trans h16, (hb.cell (cell_blk h17)).trans h17, (hb.cell (cell_blk h18)).trans h18, (hb.cell (cell_blk h19)).trans h19, (hb.cell (cell_blk h20)).trans h20, (hb.cell (cell_blk h21)).trans h21, (hb.cell (cell_blk h22)).trans h22, (hb.cell (cell_blk h23)).trans h23, ⟨hL.out.trans (hb.mono hL.out.size)⟩⟩
theorem RB2.drew {w0 W : World} {b d : Nat} {x y : Rec} {v u s t : Value} (h : RB2 w0 b d x y v u s t W) : RB2 w0 b d x y v u s t W.drew := h.next (Below.refl _ _ |>.drew)
theorem RB2.low {w0 W : World} {b d : Nat} {x y : Rec} {v u s t : Value} (h : RB2 w0 b d x y v u s t W) : Below w0.heap.size w0 W := by
  obtain ⟨_, _, _, _, _, _, _, _, _, _, _, _, _, _, _, _, _, _, _, _, _, _, _, _, hL⟩ := h
  exact hL.out
theorem RB2.made {W : World} {b d : Nat} {x y : Rec} {v u s t : Value} (hX : W.heap[b]? = some (.cells (recC x v u) 41 (0, 0))) (hY : W.heap[d]? = some (.cells (recC y s t) 41 (0, 0))) : RB2 W b d x y v u s t W :=
  ⟨blk_cell hX 0, blk_cell hX 1, blk_cell hX 2, blk_cell hX 3, blk_cell hX 4, blk_cell hX 5, blk_cell hX 6, blk_cell hX 7, blk_cell hX 8, blk_cell hX 9, blk_cell hX 10, blk_cell hX 11, blk_cell hY 0, blk_cell hY 1, blk_cell hY 2, blk_cell hY 3, blk_cell hY 4, blk_cell hY 5, blk_cell hY 6, blk_cell hY 7, blk_cell hY 8, blk_cell hY 9, blk_cell hY 10, blk_cell hY 11, ⟨Below.refl _ _⟩⟩
set_option maxRecDepth 20000 in
set_option maxHeartbeats 8000000 in
theorem recBytes_runs (w : World) (A B A' B' : Option Addr) (c d c' d' : Nat) (r q : Rec) (hG : GItem w) (hH : GRec w) (hA : kLine.C w A r.f4.f2.f4.length r.f4.f2.f4) (hc : r.f4.f2.f4.length ≤ c) (hB : kEnt.C w B r.f5.length r.f5) (hd : r.f5.length ≤ d)
    (hA' : kLine.C w A' q.f4.f2.f4.length q.f4.f2.f4) (hc' : q.f4.f2.f4.length ≤ c') (hB' : kEnt.C w B' q.f5.length q.f5) (hd' : q.f5.length ≤ d') (h4 : EntS r.f4) (hs : ∀ y ∈ r.f5, EntS y) (hw : RecW r) :
    Calls Tryd.prog 5 #[recV r (.slice A r.f4.f2.f4.length c) (.slice B r.f5.length d), recV q (.slice A' q.f4.f2.f4.length c') (.slice B' q.f5.length d')] w fun en w' => en = .returned (.bool true) ∧ Below w.heap.size w w' := by
  have HG := Aside0.mk hG
  have HH := Aside0.mk hH
  have HK1 := Aside0.mk (fun W => law_cut W A B c d r hc hd hA.2.1 hB.2.1)
  have HK2 := Aside0.mk (fun W => law_cut W A' B' c' d' q hc' hd' hA'.2.1 hB'.2.1)
  have HB0 := Aside0.mk (below_alloc (below_alloc (Below.refl w.heap.size w) (.cells (recC r (.slice A r.f4.f2.f4.length c) (.slice B r.f5.length d)) 41)) (.cells (recC q (.slice A' q.f4.f2.f4.length c') (.slice B' q.f5.length d')) 41))
  have hx0 := blk_alloc (blk_new w (.cells (recC r (.slice A r.f4.f2.f4.length c) (.slice B r.f5.length d)) 41)) (.cells (recC q (.slice A' q.f4.f2.f4.length c') (.slice B' q.f5.length d')) 41)
  have hq0 := blk_new (w.alloc (.cells (recC r (.slice A r.f4.f2.f4.length c) (.slice B r.f5.length d)) 41)) (.cells (recC q (.slice A' q.f4.f2.f4.length c') (.slice B' q.f5.length d')) 41)
  rw [World.size_alloc] at hq0
  have HX0 := Aside0.mk hx0
  have HQ0 := Aside0.mk hq0
  -- the cut ones
  have gA : kLine.C w A (cutR r).f4.f2.f4.length (cutR r).f4.f2.f4 := Kd.C_take hA (Nat.min_le_left _ _)
  have gB : kEnt.C w B (cutR r).f5.length (cutR r).f5 := Kd.C_take hB (Nat.min_le_left _ _)
  have gA' : kLine.C w A' (cutR q).f4.f2.f4.length (cutR q).f4.f2.f4 := Kd.C_take hA' (Nat.min_le_left _ _)
  have gB' : kEnt.C w B' (cutR q).f5.length (cutR q).f5 := Kd.C_take hB' (Nat.min_le_left _ _)
  have gc : (cutR r).f4.f2.f4.length ≤ c := Nat.le_trans (by unfold cutR; rw [List.length_take]; omega) hc
  have gd : (cutR r).f5.length ≤ d := Nat.le_trans (by unfold cutR; rw [List.length_take]; omega) hd
  have gc' : (cutR q).f4.f2.f4.length ≤ c' := Nat.le_trans (by unfold cutR; rw [List.length_take]; omega) hc'
  have gd' : (cutR q).f5.length ≤ d' := Nat.le_trans (by unfold cutR; rw [List.length_take]; omega) hd'
  have g4 : EntS (cutR r).f4 := ⟨by unfold cutR; simp only [List.length_take]; have := h4.1; omega, fun y hy => h4.2.1 y (List.mem_of_mem_take hy), h4.2.2⟩
  have gs : ∀ y ∈ (cutR r).f5, EntS y := fun y hy => hs y (List.mem_of_mem_take hy)
  have gw : RecW (cutR r) := ⟨hw.1, fun y hy => hw.2 y (List.mem_of_mem_take hy)⟩
  clear hG hH hA hc hB hd hA' hc' hB' hd' h4 hs hw hx0 hq0
  generalize cutR r = x at *
  generalize cutR q = y at *
  have HGA := Aside0.mk gA
  have HGB := Aside0.mk gB
  have HGA' := Aside0.mk gA'
  have HGB' := Aside0.mk gB'
  have HC1 := Aside0.mk gc
  have HD1 := Aside0.mk gd
  have HC2 := Aside0.mk gc'
  have HD2 := Aside0.mk gd'
  have H4 := Aside0.mk g4
  have HS := Aside0.mk gs
  have HW := Aside0.mk gw
  clear gA gB gA' gB' gc gd gc' gd' g4 gs gw
  go_enter Tryd.func5, Tryd.ntmps5
  go_upto_region 1 with fail
  generalize (w.alloc (.cells (recC r (.slice A r.f4.f2.f4.length c) (.slice B r.f5.length d)) 41)).alloc (.cells (recC q (.slice A' q.f4.f2.f4.length c') (.slice B' q.f5.length d')) 41) = W0 at *
  generalize hb1 : w.heap.size + 1 = b1 at *
  have HB1E := Aside0.mk hb1
  clear hb1
  go_cut [] (fun wx => Aside0 (wx.heap[w.heap.size]? = some (.cells (recC x (.slice A x.f4.f2.f4.length c) (.slice B x.f5.length d)) 41 (0, 0))) ∧ Aside0 (wx.heap[b1]? = some (.cells (recC y (.slice A' y.f4.f2.f4.length c') (.slice B' y.f5.length d')) 41 (0, 0))) ∧ Aside0 (Below w.heap.size w wx))
  case first =>
    have HX := Aside0.mk (blk_drew HX0.out)
    have HQ := Aside0.mk (blk_drew HQ0.out)
    have HB := Aside0.mk HB0.out.drew
    clear HX0 HQ0 HB0
    refine wp_region_held_drew (S := fun _ => True) (by kernel_rfl) trivial (fun _ => ?_)
    generalize W0.drew = W1 at *
    refine wpAnyH_ready (rs := [0, 2]) (by kernel_rfl) (by simp) ?_
    refine AllReadyH.cons rfl (fun K hK => ?_) ?_
    · obtain ⟨⟨q0, q1, q2, q3, q4, q5, q6, q7, q8, q9, q10, q11⟩, _⟩ := box12 HX.out
      go_simp
      clear q0 q1 q2 q3 q4 q5 q6 q7 q8 q9 q10 q11
      refine hK.out _ _ trivial (fun _ => ?_)
      clear hK K
      try simp only [Act.put, List.setIfInBounds_toArray, List.set_cons_zero, List.set_cons_succ]
      refine wpAnyH_ready (rs := [1, 2]) (by kernel_rfl) (by simp) ?_
      refine AllReadyH.cons rfl (fun K hK => ?_) ?_
      · go_simp
        go_at_call 15
        refine (HK1.out _).mono ?_
        rintro e v1 ⟨rfl, hb⟩
        have HX1 := Aside0.mk (blk_below HX.out hb)
        have HQ1 := Aside0.mk (blk_below HQ.out hb)
        have HB1 := Aside0.mk (HB.out.trans (hb.mono HB.out.size))
        clear hb
        refine hK.out _ _ trivial (fun _ => ?_)
        clear hK K
        try simp only [Act.put, List.setIfInBounds_toArray, List.set_cons_zero, List.set_cons_succ]
        refine wpAnyH_ready (rs := [2]) (by kernel_rfl) (by simp) ?_
        refine AllReadyH.cons rfl (fun K hK => ?_) AllReadyH.nil
        obtain ⟨⟨p0, p1, p2, p3, p4, p5, p6, p7, p8, p9, p10, p11⟩, _⟩ := box12 HQ1.out
        go_simp
        clear p0 p1 p2 p3 p4 p5 p6 p7 p8 p9 p10 p11
        refine hK.out _ _ trivial (fun _ => ?_)
        clear hK K
        try simp only [Act.put, List.setIfInBounds_toArray, List.set_cons_zero, List.set_cons_succ]
        refine wpAnyH_ready (rs := [3]) (by kernel_rfl) (by simp) ?_
        refine AllReadyH.cons rfl (fun K hK => ?_) AllReadyH.nil
        go_simp
        go_at_call 15
        refine (HK2.out _).mono ?_
        rintro e v2 ⟨rfl, hb⟩
        have HX2 := Aside0.mk (blk_below HX1.out hb)
        have HQ2 := Aside0.mk (blk_below HQ1.out hb)
        have HB2 := Aside0.mk (HB1.out.trans (hb.mono HB1.out.size))
        clear hb
        refine hK.out _ _ trivial (fun _ => ?_)
        clear hK K
        try simp only [Act.put, List.setIfInBounds_toArray, List.set_cons_zero, List.set_cons_succ]
        refine wpAnyH_ready (rs := [4]) (by kernel_rfl) (by simp) ?_
        refine AllReadyH.cons rfl (fun K hK => ?_) AllReadyH.nil
        have q0 : v2.cell? ⟨w.heap.size, 0, none⟩ = some (.int .i64 r.f0) := blk_cell HX2.out 0
        have q1 : v2.cell? ⟨w.heap.size, 1, none⟩ = some (.int .i64 r.f1) := blk_cell HX2.out 1
        have q2 : v2.cell? ⟨w.heap.size, 2, none⟩ = some (.int .i64 r.f2) := blk_cell HX2.out 2
        have q3 : v2.cell? ⟨w.heap.size, 3, none⟩ = some (.int .i64 r.f3) := blk_cell HX2.out 3
        have q4 : v2.cell? ⟨w.heap.size, 4, none⟩ = some (.int .i64 r.f4.f0) := blk_cell HX2.out 4
        have q5 : v2.cell? ⟨w.heap.size, 5, none⟩ = some (.int .i64 r.f4.f1) := blk_cell HX2.out 5
        have q6 : v2.cell? ⟨w.heap.size, 6, none⟩ = some (.int .i64 r.f4.f2.f0) := blk_cell HX2.out 6
        have q7 : v2.cell? ⟨w.heap.size, 7, none⟩ = some (.string r.f4.f2.f1) := blk_cell HX2.out 7
        have q8 : v2.cell? ⟨w.heap.size, 8, none⟩ = some (.int .i64 r.f4.f2.f2) := blk_cell HX2.out 8
        have q9 : v2.cell? ⟨w.heap.size, 9, none⟩ = some (.int .i64 r.f4.f2.f3) := blk_cell HX2.out 9
        have q10 : v2.cell? ⟨w.heap.size, 10, none⟩ = some (.slice A r.f4.f2.f4.length c) := blk_cell HX2.out 10
        have q11 : v2.cell? ⟨w.heap.size, 11, none⟩ = some (.slice B r.f5.length d) := blk_cell HX2.out 11
        have f0 := blk_frozen HX2.out 0
        have f1 := blk_frozen HX2.out 1
        have f2 := blk_frozen HX2.out 2
        have f3 := blk_frozen HX2.out 3
        have f4 := blk_frozen HX2.out 4
        have f5 := blk_frozen HX2.out 5
        have f6 := blk_frozen HX2.out 6
        have f7 := blk_frozen HX2.out 7
        have f8 := blk_frozen HX2.out 8
        have f9 := blk_frozen HX2.out 9
        have f10 := blk_frozen HX2.out 10
        have f11 := blk_frozen HX2.out 11
        go_simp
        clear q0 q1 q2 q3 q4 q5 q6 q7 q8 q9 q10 q11 f0 f1 f2 f3 f4 f5 f6 f7 f8 f9 f10 f11
        have hgr := put12_grown v2 (w.heap.size) (.int .i64 x.f0) (.int .i64 x.f1) (.int .i64 x.f2) (.int .i64 x.f3) (.int .i64 x.f4.f0) (.int .i64 x.f4.f1) (.int .i64 x.f4.f2.f0) (.string x.f4.f2.f1) (.int .i64 x.f4.f2.f2) (.int .i64 x.f4.f2.f3) (.slice A x.f4.f2.f4.length c) (.slice B x.f5.length d)
        have HX3 := Aside0.mk (put12_to (W := v2) HX2.out (v0 := _) (v1 := _) (v2 := _) (v3 := _) (v4 := _) (v5 := _) (v6 := _) (v7 := _) (v8 := _) (v9 := _) (v10 := (.slice A x.f4.f2.f4.length c)) (v11 := (.slice B x.f5.length d)) |> fun h => (show (put12 v2 (w.heap.size) (.int .i64 x.f0) (.int .i64 x.f1) (.int .i64 x.f2) (.int .i64 x.f3) (.int .i64 x.f4.f0) (.int .i64 x.f4.f1) (.int .i64 x.f4.f2.f0) (.string x.f4.f2.f1) (.int .i64 x.f4.f2.f2) (.int .i64 x.f4.f2.f3) (.slice A x.f4.f2.f4.length c) (.slice B x.f5.length d)).heap[w.heap.size]? = some (.cells (recC x (.slice A x.f4.f2.f4.length c) (.slice B x.f5.length d)) 41 (0, 0)) from h))
        have HQ3 := Aside0.mk (blk_grown HQ2.out hgr (fun e => by have := Option.some.inj e; have := HB1E.out; omega))
        have HB3 := Aside0.mk (below_grownG HB2.out hgr (by have := HB1E.out; omega))
        clear hgr
        refine hK.out _ _ trivial (fun _ => ?_)
        clear hK K
        try simp only [Act.put, List.setIfInBounds_toArray, List.set_cons_zero, List.set_cons_succ]
        refine (show wpAnyH _ _ _ _ _ _ _ _ (put12 v2 (w.heap.size) (.int .i64 x.f0) (.int .i64 x.f1) (.int .i64 x.f2) (.int .i64 x.f3) (.int .i64 x.f4.f0) (.int .i64 x.f4.f1) (.int .i64 x.f4.f2.f0) (.string x.f4.f2.f1) (.int .i64 x.f4.f2.f2) (.int .i64 x.f4.f2.f3) (.slice A x.f4.f2.f4.length c) (.slice B x.f5.length d)) from ?_)
        generalize put12 v2 (w.heap.size) (.int .i64 x.f0) (.int .i64 x.f1) (.int .i64 x.f2) (.int .i64 x.f3) (.int .i64 x.f4.f0) (.int .i64 x.f4.f1) (.int .i64 x.f4.f2.f0) (.string x.f4.f2.f1) (.int .i64 x.f4.f2.f2) (.int .i64 x.f4.f2.f3) (.slice A x.f4.f2.f4.length c) (.slice B x.f5.length d) = v3 at *
        refine wpAnyH_last (i := 5) (o := { dst := none, op := Op.store 41 (Operand.tmp 3) (Operand.tmp 12), type := 0, pos := "law.go:21", after := #[{ on := 3, ground := Ground.data }, { on := 4, ground := Ground.chain }, { on := 0, ground := Ground.phase }, { on := 1, ground := Ground.phase }, { on := 2, ground := Ground.phase }, { on := 3, ground := Ground.phase }, { on := 4, ground := Ground.phase }], guard := none }) (by kernel_rfl) rfl (by kernel_rfl) (fun _ => trivial) (by kernel_rfl) ?_
        intro K hK
        have q0 : v3.cell? ⟨b1, 0, none⟩ = some (.int .i64 q.f0) := blk_cell HQ3.out 0
        have q1 : v3.cell? ⟨b1, 1, none⟩ = some (.int .i64 q.f1) := blk_cell HQ3.out 1
        have q2 : v3.cell? ⟨b1, 2, none⟩ = some (.int .i64 q.f2) := blk_cell HQ3.out 2
        have q3 : v3.cell? ⟨b1, 3, none⟩ = some (.int .i64 q.f3) := blk_cell HQ3.out 3
        have q4 : v3.cell? ⟨b1, 4, none⟩ = some (.int .i64 q.f4.f0) := blk_cell HQ3.out 4
        have q5 : v3.cell? ⟨b1, 5, none⟩ = some (.int .i64 q.f4.f1) := blk_cell HQ3.out 5
        have q6 : v3.cell? ⟨b1, 6, none⟩ = some (.int .i64 q.f4.f2.f0) := blk_cell HQ3.out 6
        have q7 : v3.cell? ⟨b1, 7, none⟩ = some (.string q.f4.f2.f1) := blk_cell HQ3.out 7
        have q8 : v3.cell? ⟨b1, 8, none⟩ = some (.int .i64 q.f4.f2.f2) := blk_cell HQ3.out 8
        have q9 : v3.cell? ⟨b1, 9, none⟩ = some (.int .i64 q.f4.f2.f3) := blk_cell HQ3.out 9
        have q10 : v3.cell? ⟨b1, 10, none⟩ = some (.slice A' q.f4.f2.f4.length c') := blk_cell HQ3.out 10
        have q11 : v3.cell? ⟨b1, 11, none⟩ = some (.slice B' q.f5.length d') := blk_cell HQ3.out 11
        have f0 := blk_frozen HQ3.out 0
        have f1 := blk_frozen HQ3.out 1
        have f2 := blk_frozen HQ3.out 2
        have f3 := blk_frozen HQ3.out 3
        have f4 := blk_frozen HQ3.out 4
        have f5 := blk_frozen HQ3.out 5
        have f6 := blk_frozen HQ3.out 6
        have f7 := blk_frozen HQ3.out 7
        have f8 := blk_frozen HQ3.out 8
        have f9 := blk_frozen HQ3.out 9
        have f10 := blk_frozen HQ3.out 10
        have f11 := blk_frozen HQ3.out 11
        go_simp
        clear q0 q1 q2 q3 q4 q5 q6 q7 q8 q9 q10 q11 f0 f1 f2 f3 f4 f5 f6 f7 f8 f9 f10 f11
        have hgr := put12_grown v3 (b1) (.int .i64 y.f0) (.int .i64 y.f1) (.int .i64 y.f2) (.int .i64 y.f3) (.int .i64 y.f4.f0) (.int .i64 y.f4.f1) (.int .i64 y.f4.f2.f0) (.string y.f4.f2.f1) (.int .i64 y.f4.f2.f2) (.int .i64 y.f4.f2.f3) (.slice A' y.f4.f2.f4.length c') (.slice B' y.f5.length d')
        have HQ4 := Aside0.mk (put12_to (W := v3) HQ3.out (v0 := _) (v1 := _) (v2 := _) (v3 := _) (v4 := _) (v5 := _) (v6 := _) (v7 := _) (v8 := _) (v9 := _) (v10 := (.slice A' y.f4.f2.f4.length c')) (v11 := (.slice B' y.f5.length d')) |> fun h => (show (put12 v3 (b1) (.int .i64 y.f0) (.int .i64 y.f1) (.int .i64 y.f2) (.int .i64 y.f3) (.int .i64 y.f4.f0) (.int .i64 y.f4.f1) (.int .i64 y.f4.f2.f0) (.string y.f4.f2.f1) (.int .i64 y.f4.f2.f2) (.int .i64 y.f4.f2.f3) (.slice A' y.f4.f2.f4.length c') (.slice B' y.f5.length d')).heap[b1]? = some (.cells (recC y (.slice A' y.f4.f2.f4.length c') (.slice B' y.f5.length d')) 41 (0, 0)) from h))
        have HX4 := Aside0.mk (blk_grown HX3.out hgr (fun e => by have := Option.some.inj e; have := HB1E.out; omega))
        have HB4 := Aside0.mk (below_grownG HB3.out hgr (by have := HB1E.out; omega))
        clear hgr
        refine hK.out _ _ ?_
        clear hK K
        try simp only [Act.put, List.setIfInBounds_toArray, List.set_cons_zero, List.set_cons_succ]
        refine (show Exit.then _ _ _ _ (put12 v3 (b1) (.int .i64 y.f0) (.int .i64 y.f1) (.int .i64 y.f2) (.int .i64 y.f3) (.int .i64 y.f4.f0) (.int .i64 y.f4.f1) (.int .i64 y.f4.f2.f0) (.string y.f4.f2.f1) (.int .i64 y.f4.f2.f2) (.int .i64 y.f4.f2.f3) (.slice A' y.f4.f2.f4.length c') (.slice B' y.f5.length d')) from ?_)
        generalize put12 v3 (b1) (.int .i64 y.f0) (.int .i64 y.f1) (.int .i64 y.f2) (.int .i64 y.f3) (.int .i64 y.f4.f0) (.int .i64 y.f4.f1) (.int .i64 y.f4.f2.f0) (.string y.f4.f2.f1) (.int .i64 y.f4.f2.f2) (.int .i64 y.f4.f2.f3) (.slice A' y.f4.f2.f4.length c') (.slice B' y.f5.length d') = v4 at *
        go_wp2_with fail
        go_meet
        exact ⟨HX4, HQ4, HB4⟩
      refine AllReadyH.cons rfl (fun K hK => ?_) AllReadyH.nil
      obtain ⟨⟨p0, p1, p2, p3, p4, p5, p6, p7, p8, p9, p10, p11⟩, _⟩ := box12 HQ.out
      go_simp
      clear p0 p1 p2 p3 p4 p5 p6 p7 p8 p9 p10 p11
      refine hK.out _ _ trivial (fun _ => ?_)
      clear hK K
      try simp only [Act.put, List.setIfInBounds_toArray, List.set_cons_zero, List.set_cons_succ]
      refine wpAnyH_ready (rs := [1]) (by kernel_rfl) (by simp) ?_
      refine AllReadyH.cons rfl (fun K hK => ?_) AllReadyH.nil
      go_simp
      go_at_call 15
      refine (HK1.out _).mono ?_
      rintro e v1 ⟨rfl, hb⟩
      have HX1 := Aside0.mk (blk_below HX.out hb)
      have HQ1 := Aside0.mk (blk_below HQ.out hb)
      have HB1 := Aside0.mk (HB.out.trans (hb.mono HB.out.size))
      clear hb
      refine hK.out _ _ trivial (fun _ => ?_)
      clear hK K
      try simp only [Act.put, List.setIfInBounds_toArray, List.set_cons_zero, List.set_cons_succ]
      refine wpAnyH_ready (rs := [3]) (by kernel_rfl) (by simp) ?_
      refine AllReadyH.cons rfl (fun K hK => ?_) AllReadyH.nil
      go_simp
      go_at_call 15
      refine (HK2.out _).mono ?_
      rintro e v2 ⟨rfl, hb⟩
      have HX2 := Aside0.mk (blk_below HX1.out hb)
      have HQ2 := Aside0.mk (blk_below HQ1.out hb)
      have HB2 := Aside0.mk (HB1.out.trans (hb.mono HB1.out.size))
      clear hb
      refine hK.out _ _ trivial (fun _ => ?_)
      clear hK K
      try simp only [Act.put, List.setIfInBounds_toArray, List.set_cons_zero, List.set_cons_succ]
      refine wpAnyH_ready (rs := [4]) (by kernel_rfl) (by simp) ?_
      refine AllReadyH.cons rfl (fun K hK => ?_) AllReadyH.nil
      have q0 : v2.cell? ⟨w.heap.size, 0, none⟩ = some (.int .i64 r.f0) := blk_cell HX2.out 0
      have q1 : v2.cell? ⟨w.heap.size, 1, none⟩ = some (.int .i64 r.f1) := blk_cell HX2.out 1
      have q2 : v2.cell? ⟨w.heap.size, 2, none⟩ = some (.int .i64 r.f2) := blk_cell HX2.out 2
      have q3 : v2.cell? ⟨w.heap.size, 3, none⟩ = some (.int .i64 r.f3) := blk_cell HX2.out 3
      have q4 : v2.cell? ⟨w.heap.size, 4, none⟩ = some (.int .i64 r.f4.f0) := blk_cell HX2.out 4
      have q5 : v2.cell? ⟨w.heap.size, 5, none⟩ = some (.int .i64 r.f4.f1) := blk_cell HX2.out 5
      have q6 : v2.cell? ⟨w.heap.size, 6, none⟩ = some (.int .i64 r.f4.f2.f0) := blk_cell HX2.out 6
      have q7 : v2.cell? ⟨w.heap.size, 7, none⟩ = some (.string r.f4.f2.f1) := blk_cell HX2.out 7
      have q8 : v2.cell? ⟨w.heap.size, 8, none⟩ = some (.int .i64 r.f4.f2.f2) := blk_cell HX2.out 8
      have q9 : v2.cell? ⟨w.heap.size, 9, none⟩ = some (.int .i64 r.f4.f2.f3) := blk_cell HX2.out 9
      have q10 : v2.cell? ⟨w.heap.size, 10, none⟩ = some (.slice A r.f4.f2.f4.length c) := blk_cell HX2.out 10
      have q11 : v2.cell? ⟨w.heap.size, 11, none⟩ = some (.slice B r.f5.length d) := blk_cell HX2.out 11
      have f0 := blk_frozen HX2.out 0
      have f1 := blk_frozen HX2.out 1
      have f2 := blk_frozen HX2.out 2
      have f3 := blk_frozen HX2.out 3
      have f4 := blk_frozen HX2.out 4
      have f5 := blk_frozen HX2.out 5
      have f6 := blk_frozen HX2.out 6
      have f7 := blk_frozen HX2.out 7
      have f8 := blk_frozen HX2.out 8
      have f9 := blk_frozen HX2.out 9
      have f10 := blk_frozen HX2.out 10
      have f11 := blk_frozen HX2.out 11
      go_simp
      clear q0 q1 q2 q3 q4 q5 q6 q7 q8 q9 q10 q11 f0 f1 f2 f3 f4 f5 f6 f7 f8 f9 f10 f11
      have hgr := put12_grown v2 (w.heap.size) (.int .i64 x.f0) (.int .i64 x.f1) (.int .i64 x.f2) (.int .i64 x.f3) (.int .i64 x.f4.f0) (.int .i64 x.f4.f1) (.int .i64 x.f4.f2.f0) (.string x.f4.f2.f1) (.int .i64 x.f4.f2.f2) (.int .i64 x.f4.f2.f3) (.slice A x.f4.f2.f4.length c) (.slice B x.f5.length d)
      have HX3 := Aside0.mk (put12_to (W := v2) HX2.out (v0 := _) (v1 := _) (v2 := _) (v3 := _) (v4 := _) (v5 := _) (v6 := _) (v7 := _) (v8 := _) (v9 := _) (v10 := (.slice A x.f4.f2.f4.length c)) (v11 := (.slice B x.f5.length d)) |> fun h => (show (put12 v2 (w.heap.size) (.int .i64 x.f0) (.int .i64 x.f1) (.int .i64 x.f2) (.int .i64 x.f3) (.int .i64 x.f4.f0) (.int .i64 x.f4.f1) (.int .i64 x.f4.f2.f0) (.string x.f4.f2.f1) (.int .i64 x.f4.f2.f2) (.int .i64 x.f4.f2.f3) (.slice A x.f4.f2.f4.length c) (.slice B x.f5.length d)).heap[w.heap.size]? = some (.cells (recC x (.slice A x.f4.f2.f4.length c) (.slice B x.f5.length d)) 41 (0, 0)) from h))
      have HQ3 := Aside0.mk (blk_grown HQ2.out hgr (fun e => by have := Option.some.inj e; have := HB1E.out; omega))
      have HB3 := Aside0.mk (below_grownG HB2.out hgr (by have := HB1E.out; omega))
      clear hgr
      refine hK.out _ _ trivial (fun _ => ?_)
      clear hK K
      try simp only [Act.put, List.setIfInBounds_toArray, List.set_cons_zero, List.set_cons_succ]
      refine (show wpAnyH _ _ _ _ _ _ _ _ (put12 v2 (w.heap.size) (.int .i64 x.f0) (.int .i64 x.f1) (.int .i64 x.f2) (.int .i64 x.f3) (.int .i64 x.f4.f0) (.int .i64 x.f4.f1) (.int .i64 x.f4.f2.f0) (.string x.f4.f2.f1) (.int .i64 x.f4.f2.f2) (.int .i64 x.f4.f2.f3) (.slice A x.f4.f2.f4.length c) (.slice B x.f5.length d)) from ?_)
      generalize put12 v2 (w.heap.size) (.int .i64 x.f0) (.int .i64 x.f1) (.int .i64 x.f2) (.int .i64 x.f3) (.int .i64 x.f4.f0) (.int .i64 x.f4.f1) (.int .i64 x.f4.f2.f0) (.string x.f4.f2.f1) (.int .i64 x.f4.f2.f2) (.int .i64 x.f4.f2.f3) (.slice A x.f4.f2.f4.length c) (.slice B x.f5.length d) = v3 at *
      refine wpAnyH_last (i := 5) (o := { dst := none, op := Op.store 41 (Operand.tmp 3) (Operand.tmp 12), type := 0, pos := "law.go:21", after := #[{ on := 3, ground := Ground.data }, { on := 4, ground := Ground.chain }, { on := 0, ground := Ground.phase }, { on := 1, ground := Ground.phase }, { on := 2, ground := Ground.phase }, { on := 3, ground := Ground.phase }, { on := 4, ground := Ground.phase }], guard := none }) (by kernel_rfl) rfl (by kernel_rfl) (fun _ => trivial) (by kernel_rfl) ?_
      intro K hK
      have q0 : v3.cell? ⟨b1, 0, none⟩ = some (.int .i64 q.f0) := blk_cell HQ3.out 0
      have q1 : v3.cell? ⟨b1, 1, none⟩ = some (.int .i64 q.f1) := blk_cell HQ3.out 1
      have q2 : v3.cell? ⟨b1, 2, none⟩ = some (.int .i64 q.f2) := blk_cell HQ3.out 2
      have q3 : v3.cell? ⟨b1, 3, none⟩ = some (.int .i64 q.f3) := blk_cell HQ3.out 3
      have q4 : v3.cell? ⟨b1, 4, none⟩ = some (.int .i64 q.f4.f0) := blk_cell HQ3.out 4
      have q5 : v3.cell? ⟨b1, 5, none⟩ = some (.int .i64 q.f4.f1) := blk_cell HQ3.out 5
      have q6 : v3.cell? ⟨b1, 6, none⟩ = some (.int .i64 q.f4.f2.f0) := blk_cell HQ3.out 6
      have q7 : v3.cell? ⟨b1, 7, none⟩ = some (.string q.f4.f2.f1) := blk_cell HQ3.out 7
      have q8 : v3.cell? ⟨b1, 8, none⟩ = some (.int .i64 q.f4.f2.f2) := blk_cell HQ3.out 8
      have q9 : v3.cell? ⟨b1, 9, none⟩ = some (.int .i64 q.f4.f2.f3) := blk_cell HQ3.out 9
      have q10 : v3.cell? ⟨b1, 10, none⟩ = some (.slice A' q.f4.f2.f4.length c') := blk_cell HQ3.out 10
      have q11 : v3.cell? ⟨b1, 11, none⟩ = some (.slice B' q.f5.length d') := blk_cell HQ3.out 11
      have f0 := blk_frozen HQ3.out 0
      have f1 := blk_frozen HQ3.out 1
      have f2 := blk_frozen HQ3.out 2
      have f3 := blk_frozen HQ3.out 3
      have f4 := blk_frozen HQ3.out 4
      have f5 := blk_frozen HQ3.out 5
      have f6 := blk_frozen HQ3.out 6
      have f7 := blk_frozen HQ3.out 7
      have f8 := blk_frozen HQ3.out 8
      have f9 := blk_frozen HQ3.out 9
      have f10 := blk_frozen HQ3.out 10
      have f11 := blk_frozen HQ3.out 11
      go_simp
      clear q0 q1 q2 q3 q4 q5 q6 q7 q8 q9 q10 q11 f0 f1 f2 f3 f4 f5 f6 f7 f8 f9 f10 f11
      have hgr := put12_grown v3 (b1) (.int .i64 y.f0) (.int .i64 y.f1) (.int .i64 y.f2) (.int .i64 y.f3) (.int .i64 y.f4.f0) (.int .i64 y.f4.f1) (.int .i64 y.f4.f2.f0) (.string y.f4.f2.f1) (.int .i64 y.f4.f2.f2) (.int .i64 y.f4.f2.f3) (.slice A' y.f4.f2.f4.length c') (.slice B' y.f5.length d')
      have HQ4 := Aside0.mk (put12_to (W := v3) HQ3.out (v0 := _) (v1 := _) (v2 := _) (v3 := _) (v4 := _) (v5 := _) (v6 := _) (v7 := _) (v8 := _) (v9 := _) (v10 := (.slice A' y.f4.f2.f4.length c')) (v11 := (.slice B' y.f5.length d')) |> fun h => (show (put12 v3 (b1) (.int .i64 y.f0) (.int .i64 y.f1) (.int .i64 y.f2) (.int .i64 y.f3) (.int .i64 y.f4.f0) (.int .i64 y.f4.f1) (.int .i64 y.f4.f2.f0) (.string y.f4.f2.f1) (.int .i64 y.f4.f2.f2) (.int .i64 y.f4.f2.f3) (.slice A' y.f4.f2.f4.length c') (.slice B' y.f5.length d')).heap[b1]? = some (.cells (recC y (.slice A' y.f4.f2.f4.length c') (.slice B' y.f5.length d')) 41 (0, 0)) from h))
      have HX4 := Aside0.mk (blk_grown HX3.out hgr (fun e => by have := Option.some.inj e; have := HB1E.out; omega))
      have HB4 := Aside0.mk (below_grownG HB3.out hgr (by have := HB1E.out; omega))
      clear hgr
      refine hK.out _ _ ?_
      clear hK K
      try simp only [Act.put, List.setIfInBounds_toArray, List.set_cons_zero, List.set_cons_succ]
      refine (show Exit.then _ _ _ _ (put12 v3 (b1) (.int .i64 y.f0) (.int .i64 y.f1) (.int .i64 y.f2) (.int .i64 y.f3) (.int .i64 y.f4.f0) (.int .i64 y.f4.f1) (.int .i64 y.f4.f2.f0) (.string y.f4.f2.f1) (.int .i64 y.f4.f2.f2) (.int .i64 y.f4.f2.f3) (.slice A' y.f4.f2.f4.length c') (.slice B' y.f5.length d')) from ?_)
      generalize put12 v3 (b1) (.int .i64 y.f0) (.int .i64 y.f1) (.int .i64 y.f2) (.int .i64 y.f3) (.int .i64 y.f4.f0) (.int .i64 y.f4.f1) (.int .i64 y.f4.f2.f0) (.string y.f4.f2.f1) (.int .i64 y.f4.f2.f2) (.int .i64 y.f4.f2.f3) (.slice A' y.f4.f2.f4.length c') (.slice B' y.f5.length d') = v4 at *
      go_wp2_with fail
      go_meet
      exact ⟨HX4, HQ4, HB4⟩
    refine AllReadyH.cons rfl (fun K hK => ?_) AllReadyH.nil
    obtain ⟨⟨p0, p1, p2, p3, p4, p5, p6, p7, p8, p9, p10, p11⟩, _⟩ := box12 HQ.out
    go_simp
    clear p0 p1 p2 p3 p4 p5 p6 p7 p8 p9 p10 p11
    refine hK.out _ _ trivial (fun _ => ?_)
    clear hK K
    try simp only [Act.put, List.setIfInBounds_toArray, List.set_cons_zero, List.set_cons_succ]
    refine wpAnyH_ready (rs := [0]) (by kernel_rfl) (by simp) ?_
    refine AllReadyH.cons rfl (fun K hK => ?_) AllReadyH.nil
    obtain ⟨⟨q0, q1, q2, q3, q4, q5, q6, q7, q8, q9, q10, q11⟩, _⟩ := box12 HX.out
    go_simp
    clear q0 q1 q2 q3 q4 q5 q6 q7 q8 q9 q10 q11
    refine hK.out _ _ trivial (fun _ => ?_)
    clear hK K
    try simp only [Act.put, List.setIfInBounds_toArray, List.set_cons_zero, List.set_cons_succ]
    refine wpAnyH_ready (rs := [1]) (by kernel_rfl) (by simp) ?_
    refine AllReadyH.cons rfl (fun K hK => ?_) AllReadyH.nil
    go_simp
    go_at_call 15
    refine (HK1.out _).mono ?_
    rintro e v1 ⟨rfl, hb⟩
    have HX1 := Aside0.mk (blk_below HX.out hb)
    have HQ1 := Aside0.mk (blk_below HQ.out hb)
    have HB1 := Aside0.mk (HB.out.trans (hb.mono HB.out.size))
    clear hb
    refine hK.out _ _ trivial (fun _ => ?_)
    clear hK K
    try simp only [Act.put, List.setIfInBounds_toArray, List.set_cons_zero, List.set_cons_succ]
    refine wpAnyH_ready (rs := [3]) (by kernel_rfl) (by simp) ?_
    refine AllReadyH.cons rfl (fun K hK => ?_) AllReadyH.nil
    go_simp
    go_at_call 15
    refine (HK2.out _).mono ?_
    rintro e v2 ⟨rfl, hb⟩
    have HX2 := Aside0.mk (blk_below HX1.out hb)
    have HQ2 := Aside0.mk (blk_below HQ1.out hb)
    have HB2 := Aside0.mk (HB1.out.trans (hb.mono HB1.out.size))
    clear hb
    refine hK.out _ _ trivial (fun _ => ?_)
    clear hK K
    try simp only [Act.put, List.setIfInBounds_toArray, List.set_cons_zero, List.set_cons_succ]
    refine wpAnyH_ready (rs := [4]) (by kernel_rfl) (by simp) ?_
    refine AllReadyH.cons rfl (fun K hK => ?_) AllReadyH.nil
    have q0 : v2.cell? ⟨w.heap.size, 0, none⟩ = some (.int .i64 r.f0) := blk_cell HX2.out 0
    have q1 : v2.cell? ⟨w.heap.size, 1, none⟩ = some (.int .i64 r.f1) := blk_cell HX2.out 1
    have q2 : v2.cell? ⟨w.heap.size, 2, none⟩ = some (.int .i64 r.f2) := blk_cell HX2.out 2
    have q3 : v2.cell? ⟨w.heap.size, 3, none⟩ = some (.int .i64 r.f3) := blk_cell HX2.out 3
    have q4 : v2.cell? ⟨w.heap.size, 4, none⟩ = some (.int .i64 r.f4.f0) := blk_cell HX2.out 4
    have q5 : v2.cell? ⟨w.heap.size, 5, none⟩ = some (.int .i64 r.f4.f1) := blk_cell HX2.out 5
    have q6 : v2.cell? ⟨w.heap.size, 6, none⟩ = some (.int .i64 r.f4.f2.f0) := blk_cell HX2.out 6
    have q7 : v2.cell? ⟨w.heap.size, 7, none⟩ = some (.string r.f4.f2.f1) := blk_cell HX2.out 7
    have q8 : v2.cell? ⟨w.heap.size, 8, none⟩ = some (.int .i64 r.f4.f2.f2) := blk_cell HX2.out 8
    have q9 : v2.cell? ⟨w.heap.size, 9, none⟩ = some (.int .i64 r.f4.f2.f3) := blk_cell HX2.out 9
    have q10 : v2.cell? ⟨w.heap.size, 10, none⟩ = some (.slice A r.f4.f2.f4.length c) := blk_cell HX2.out 10
    have q11 : v2.cell? ⟨w.heap.size, 11, none⟩ = some (.slice B r.f5.length d) := blk_cell HX2.out 11
    have f0 := blk_frozen HX2.out 0
    have f1 := blk_frozen HX2.out 1
    have f2 := blk_frozen HX2.out 2
    have f3 := blk_frozen HX2.out 3
    have f4 := blk_frozen HX2.out 4
    have f5 := blk_frozen HX2.out 5
    have f6 := blk_frozen HX2.out 6
    have f7 := blk_frozen HX2.out 7
    have f8 := blk_frozen HX2.out 8
    have f9 := blk_frozen HX2.out 9
    have f10 := blk_frozen HX2.out 10
    have f11 := blk_frozen HX2.out 11
    go_simp
    clear q0 q1 q2 q3 q4 q5 q6 q7 q8 q9 q10 q11 f0 f1 f2 f3 f4 f5 f6 f7 f8 f9 f10 f11
    have hgr := put12_grown v2 (w.heap.size) (.int .i64 x.f0) (.int .i64 x.f1) (.int .i64 x.f2) (.int .i64 x.f3) (.int .i64 x.f4.f0) (.int .i64 x.f4.f1) (.int .i64 x.f4.f2.f0) (.string x.f4.f2.f1) (.int .i64 x.f4.f2.f2) (.int .i64 x.f4.f2.f3) (.slice A x.f4.f2.f4.length c) (.slice B x.f5.length d)
    have HX3 := Aside0.mk (put12_to (W := v2) HX2.out (v0 := _) (v1 := _) (v2 := _) (v3 := _) (v4 := _) (v5 := _) (v6 := _) (v7 := _) (v8 := _) (v9 := _) (v10 := (.slice A x.f4.f2.f4.length c)) (v11 := (.slice B x.f5.length d)) |> fun h => (show (put12 v2 (w.heap.size) (.int .i64 x.f0) (.int .i64 x.f1) (.int .i64 x.f2) (.int .i64 x.f3) (.int .i64 x.f4.f0) (.int .i64 x.f4.f1) (.int .i64 x.f4.f2.f0) (.string x.f4.f2.f1) (.int .i64 x.f4.f2.f2) (.int .i64 x.f4.f2.f3) (.slice A x.f4.f2.f4.length c) (.slice B x.f5.length d)).heap[w.heap.size]? = some (.cells (recC x (.slice A x.f4.f2.f4.length c) (.slice B x.f5.length d)) 41 (0, 0)) from h))
    have HQ3 := Aside0.mk (blk_grown HQ2.out hgr (fun e => by have := Option.some.inj e; have := HB1E.out; omega))
    have HB3 := Aside0.mk (below_grownG HB2.out hgr (by have := HB1E.out; omega))
    clear hgr
    refine hK.out _ _ trivial (fun _ => ?_)
    clear hK K
    try simp only [Act.put, List.setIfInBounds_toArray, List.set_cons_zero, List.set_cons_succ]
    refine (show wpAnyH _ _ _ _ _ _ _ _ (put12 v2 (w.heap.size) (.int .i64 x.f0) (.int .i64 x.f1) (.int .i64 x.f2) (.int .i64 x.f3) (.int .i64 x.f4.f0) (.int .i64 x.f4.f1) (.int .i64 x.f4.f2.f0) (.string x.f4.f2.f1) (.int .i64 x.f4.f2.f2) (.int .i64 x.f4.f2.f3) (.slice A x.f4.f2.f4.length c) (.slice B x.f5.length d)) from ?_)
    generalize put12 v2 (w.heap.size) (.int .i64 x.f0) (.int .i64 x.f1) (.int .i64 x.f2) (.int .i64 x.f3) (.int .i64 x.f4.f0) (.int .i64 x.f4.f1) (.int .i64 x.f4.f2.f0) (.string x.f4.f2.f1) (.int .i64 x.f4.f2.f2) (.int .i64 x.f4.f2.f3) (.slice A x.f4.f2.f4.length c) (.slice B x.f5.length d) = v3 at *
    refine wpAnyH_last (i := 5) (o := { dst := none, op := Op.store 41 (Operand.tmp 3) (Operand.tmp 12), type := 0, pos := "law.go:21", after := #[{ on := 3, ground := Ground.data }, { on := 4, ground := Ground.chain }, { on := 0, ground := Ground.phase }, { on := 1, ground := Ground.phase }, { on := 2, ground := Ground.phase }, { on := 3, ground := Ground.phase }, { on := 4, ground := Ground.phase }], guard := none }) (by kernel_rfl) rfl (by kernel_rfl) (fun _ => trivial) (by kernel_rfl) ?_
    intro K hK
    have q0 : v3.cell? ⟨b1, 0, none⟩ = some (.int .i64 q.f0) := blk_cell HQ3.out 0
    have q1 : v3.cell? ⟨b1, 1, none⟩ = some (.int .i64 q.f1) := blk_cell HQ3.out 1
    have q2 : v3.cell? ⟨b1, 2, none⟩ = some (.int .i64 q.f2) := blk_cell HQ3.out 2
    have q3 : v3.cell? ⟨b1, 3, none⟩ = some (.int .i64 q.f3) := blk_cell HQ3.out 3
    have q4 : v3.cell? ⟨b1, 4, none⟩ = some (.int .i64 q.f4.f0) := blk_cell HQ3.out 4
    have q5 : v3.cell? ⟨b1, 5, none⟩ = some (.int .i64 q.f4.f1) := blk_cell HQ3.out 5
    have q6 : v3.cell? ⟨b1, 6, none⟩ = some (.int .i64 q.f4.f2.f0) := blk_cell HQ3.out 6
    have q7 : v3.cell? ⟨b1, 7, none⟩ = some (.string q.f4.f2.f1) := blk_cell HQ3.out 7
    have q8 : v3.cell? ⟨b1, 8, none⟩ = some (.int .i64 q.f4.f2.f2) := blk_cell HQ3.out 8
    have q9 : v3.cell? ⟨b1, 9, none⟩ = some (.int .i64 q.f4.f2.f3) := blk_cell HQ3.out 9
    have q10 : v3.cell? ⟨b1, 10, none⟩ = some (.slice A' q.f4.f2.f4.length c') := blk_cell HQ3.out 10
    have q11 : v3.cell? ⟨b1, 11, none⟩ = some (.slice B' q.f5.length d') := blk_cell HQ3.out 11
    have f0 := blk_frozen HQ3.out 0
    have f1 := blk_frozen HQ3.out 1
    have f2 := blk_frozen HQ3.out 2
    have f3 := blk_frozen HQ3.out 3
    have f4 := blk_frozen HQ3.out 4
    have f5 := blk_frozen HQ3.out 5
    have f6 := blk_frozen HQ3.out 6
    have f7 := blk_frozen HQ3.out 7
    have f8 := blk_frozen HQ3.out 8
    have f9 := blk_frozen HQ3.out 9
    have f10 := blk_frozen HQ3.out 10
    have f11 := blk_frozen HQ3.out 11
    go_simp
    clear q0 q1 q2 q3 q4 q5 q6 q7 q8 q9 q10 q11 f0 f1 f2 f3 f4 f5 f6 f7 f8 f9 f10 f11
    have hgr := put12_grown v3 (b1) (.int .i64 y.f0) (.int .i64 y.f1) (.int .i64 y.f2) (.int .i64 y.f3) (.int .i64 y.f4.f0) (.int .i64 y.f4.f1) (.int .i64 y.f4.f2.f0) (.string y.f4.f2.f1) (.int .i64 y.f4.f2.f2) (.int .i64 y.f4.f2.f3) (.slice A' y.f4.f2.f4.length c') (.slice B' y.f5.length d')
    have HQ4 := Aside0.mk (put12_to (W := v3) HQ3.out (v0 := _) (v1 := _) (v2 := _) (v3 := _) (v4 := _) (v5 := _) (v6 := _) (v7 := _) (v8 := _) (v9 := _) (v10 := (.slice A' y.f4.f2.f4.length c')) (v11 := (.slice B' y.f5.length d')) |> fun h => (show (put12 v3 (b1) (.int .i64 y.f0) (.int .i64 y.f1) (.int .i64 y.f2) (.int .i64 y.f3) (.int .i64 y.f4.f0) (.int .i64 y.f4.f1) (.int .i64 y.f4.f2.f0) (.string y.f4.f2.f1) (.int .i64 y.f4.f2.f2) (.int .i64 y.f4.f2.f3) (.slice A' y.f4.f2.f4.length c') (.slice B' y.f5.length d')).heap[b1]? = some (.cells (recC y (.slice A' y.f4.f2.f4.length c') (.slice B' y.f5.length d')) 41 (0, 0)) from h))
    have HX4 := Aside0.mk (blk_grown HX3.out hgr (fun e => by have := Option.some.inj e; have := HB1E.out; omega))
    have HB4 := Aside0.mk (below_grownG HB3.out hgr (by have := HB1E.out; omega))
    clear hgr
    refine hK.out _ _ ?_
    clear hK K
    try simp only [Act.put, List.setIfInBounds_toArray, List.set_cons_zero, List.set_cons_succ]
    refine (show Exit.then _ _ _ _ (put12 v3 (b1) (.int .i64 y.f0) (.int .i64 y.f1) (.int .i64 y.f2) (.int .i64 y.f3) (.int .i64 y.f4.f0) (.int .i64 y.f4.f1) (.int .i64 y.f4.f2.f0) (.string y.f4.f2.f1) (.int .i64 y.f4.f2.f2) (.int .i64 y.f4.f2.f3) (.slice A' y.f4.f2.f4.length c') (.slice B' y.f5.length d')) from ?_)
    generalize put12 v3 (b1) (.int .i64 y.f0) (.int .i64 y.f1) (.int .i64 y.f2) (.int .i64 y.f3) (.int .i64 y.f4.f0) (.int .i64 y.f4.f1) (.int .i64 y.f4.f2.f0) (.string y.f4.f2.f1) (.int .i64 y.f4.f2.f2) (.int .i64 y.f4.f2.f3) (.slice A' y.f4.f2.f4.length c') (.slice B' y.f5.length d') = v4 at *
    go_wp2_with fail
    go_meet
    exact ⟨HX4, HQ4, HB4⟩
  case rest =>
    clear HX0 HQ0 HB0 HK1 HK2 HB1E
    obtain ⟨HX, HQ, HB⟩ := hcut
    have HM := Aside0.mk (record_Bytes wc A B c d x (HG.out.below HB.out) (HH.out.below HB.out) (Kd.C_below HGA.out HB.out) HC1.out (Kd.C_below HGB.out HB.out) HD1.out HW.out)
    have HN := Aside0.mk (fun W (hb : Below w.heap.size w W) => ref_recBytes W A B c d x (Kd.C_below HGA.out hb) HC1.out (Kd.C_below HGB.out hb) HD1.out H4.out HS.out HW.out)
    obtain ⟨⟨q0, q1, q2, q3, q4, q5, q6, q7, q8, q9, q10, q11⟩, _⟩ := box12 HX.out
    go_upto_region 4 with (first
      | (go_at_call 14; refine HM.out.mono ?_; rintro en w1 ⟨v1, rfl, hv, hb⟩; have HX1 := Aside0.mk (blk_below HX.out hb); have HQ1 := Aside0.mk (blk_below HQ.out hb); have HB1 := Aside0.mk (HB.out.trans (hb.mono HB.out.size)); have HV1 := Aside0.mk hv; clear hv hb q0 q1 q2 q3 q4 q5 q6 q7 q8 q9 q10 q11; obtain ⟨⟨q0, q1, q2, q3, q4, q5, q6, q7, q8, q9, q10, q11⟩, _⟩ := box12 HX1.out)
      | (go_at_call 16; refine (HN.out w1 HB1.out).mono ?_; rintro en w2 ⟨v2, rfl, hv, hb⟩; have HX2 := Aside0.mk (blk_below HX1.out hb); have HQ2 := Aside0.mk (blk_below HQ1.out hb); have HB2 := Aside0.mk (HB1.out.trans (hb.mono HB1.out.size)); have HV2 := Aside0.mk hv; have HV1b := Aside0.mk (Kd.R_below HV1.out hb); clear hv hb q0 q1 q2 q3 q4 q5 q6 q7 q8 q9 q10 q11))
    clear HX HQ HB HX1 HQ1 HB1 HV1 HM HN
    obtain ⟨A1, c1, e1, hc1, hr1⟩ := R_C HV1b.out
    subst e1
    obtain ⟨A2, c2, e2, hc2, hr2⟩ := R_C HV2.out
    subst e2
    have HR1 := Aside0.mk hr1
    have HR2 := Aside0.mk hr2
    have HCC1 := Aside0.mk hc1
    have HCC2 := Aside0.mk hc2
    clear hr1 hr2 hc1 hc2 HV1b HV2
    have hln : RB2 w2 w.heap.size b1 x y (.slice A x.f4.f2.f4.length c) (.slice B x.f5.length d) (.slice A' y.f4.f2.f4.length c') (.slice B' y.f5.length d') w2 := RB2.made HX2.out HQ2.out
    have HBW : Aside0 (∀ W, RB2 w2 w.heap.size b1 x y (.slice A x.f4.f2.f4.length c) (.slice B x.f5.length d) (.slice A' y.f4.f2.f4.length c') (.slice B' y.f5.length d') W → Below w.heap.size w W) := ⟨fun W h => HB2.out.trans (h.low.mono HB2.out.size)⟩
    have c17 := fun W (h : RB2 w2 w.heap.size b1 x y (.slice A x.f4.f2.f4.length c) (.slice B x.f5.length d) (.slice A' y.f4.f2.f4.length c') (.slice B' y.f5.length d') W) => record_Check W A B c d x (HG.out.below (HBW.out W h)) (HH.out.below (HBW.out W h)) (Kd.C_below HGA.out (HBW.out W h)) HC1.out (Kd.C_below HGB.out (HBW.out W h)) HD1.out
    have c18 := fun W (h : RB2 w2 w.heap.size b1 x y (.slice A x.f4.f2.f4.length c) (.slice B x.f5.length d) (.slice A' y.f4.f2.f4.length c') (.slice B' y.f5.length d') W) => ref_recCheck W A B c d x (Kd.C_below HGA.out (HBW.out W h)) HC1.out (Kd.C_below HGB.out (HBW.out W h)) HD1.out H4.out HS.out HW.out
    have c12 := fun W (h : RB2 w2 w.heap.size b1 x y (.slice A x.f4.f2.f4.length c) (.slice B x.f5.length d) (.slice A' y.f4.f2.f4.length c') (.slice B' y.f5.length d') W) => eqBytes_same W A1 c1 (recR x) A2 c2 (recR x) (Kd.C_below HR1.out h.low) HCC1.out (Kd.C_below HR2.out h.low) HCC2.out rfl
    have c19 := fun W (h : RB2 w2 w.heap.size b1 x y (.slice A x.f4.f2.f4.length c) (.slice B x.f5.length d) (.slice A' y.f4.f2.f4.length c') (.slice B' y.f5.length d') W) => record_Same W A B c d x A' B' c' d' y (Kd.C_below HGA.out (HBW.out W h)) HC1.out (Kd.C_below HGB.out (HBW.out W h)) HD1.out (Kd.C_below HGA'.out (HBW.out W h)) HC2.out (Kd.C_below HGB'.out (HBW.out W h)) HD2.out
    have c20 := fun W (h : RB2 w2 w.heap.size b1 x y (.slice A x.f4.f2.f4.length c) (.slice B x.f5.length d) (.slice A' y.f4.f2.f4.length c') (.slice B' y.f5.length d') W) => ref_recSame W A B c d x A' B' c' d' y (Kd.C_below HGA.out (HBW.out W h)) HC1.out (Kd.C_below HGB.out (HBW.out W h)) HD1.out (Kd.C_below HGA'.out (HBW.out W h)) HC2.out (Kd.C_below HGB'.out (HBW.out W h)) HD2.out HS.out
    have c19s := fun W (h : RB2 w2 w.heap.size b1 x y (.slice A x.f4.f2.f4.length c) (.slice B x.f5.length d) (.slice A' y.f4.f2.f4.length c') (.slice B' y.f5.length d') W) => record_Same W A B c d x A B c d x (Kd.C_below HGA.out (HBW.out W h)) HC1.out (Kd.C_below HGB.out (HBW.out W h)) HD1.out (Kd.C_below HGA.out (HBW.out W h)) HC1.out (Kd.C_below HGB.out (HBW.out W h)) HD1.out
    have c13 := fun W (h : RB2 w2 w.heap.size b1 x y (.slice A x.f4.f2.f4.length c) (.slice B x.f5.length d) (.slice A' y.f4.f2.f4.length c') (.slice B' y.f5.length d') W) => works_runs W (HG.out.below (HBW.out W h)) (HH.out.below (HBW.out W h))
    rw [(sameRec_iff x x).2 rfl] at c19s
    generalize sameRec x y = sxy at *
    generalize recE x = ex at *
    generalize (recR x).length = lr at *
    have C17 := Aside0.mk c17
    have C18 := Aside0.mk c18
    have C12 := Aside0.mk c12
    have C19 := Aside0.mk c19
    have C20 := Aside0.mk c20
    have C19s := Aside0.mk c19s
    have C13 := Aside0.mk c13
    clear c17 c18 c12 c19 c20 c19s c13 HX2 HQ2 HR1 HR2 HGA HGB HGA' HGB' HG HH HC1 HC2 HD1 HD2 HCC1 HCC2 H4 HS HW
    refine wp_region_held_drew (S := (fun W => Aside0 (RB2 w2 w.heap.size b1 x y (.slice A x.f4.f2.f4.length c) (.slice B x.f5.length d) (.slice A' y.f4.f2.f4.length c') (.slice B' y.f5.length d') W))) (by kernel_rfl) ⟨hln.drew⟩ (fun hHeld => ?_)
    clear hln
    refine takeH (i := 0) (some 23) (v := ?_) rfl rfl (by kernel_rfl) (by kernel_rfl) (by kernel_rfl) (fun _ _ _ h => h) (Or.inl ⟨by kernel_rfl, ?_⟩) (by assumption) ?_
    rotate_left
    · (rintro w' ⟨⟨z0, z1, z2, z3, z4, z5, z6, z7, z8, z9, z10, z11, y0, y1, y2, y3, y4, y5, y6, y7, y8, y9, y10, y11, zL⟩⟩; go_simp; first | done | with_reducible rfl)
    simp only [Act.put, List.setIfInBounds_toArray, List.set_cons_zero, List.set_cons_succ]
    refine takeH (i := 2) (some 25) (v := ?_) rfl rfl (by kernel_rfl) (by kernel_rfl) (by kernel_rfl) (fun _ _ _ h => h) (Or.inl ⟨by kernel_rfl, ?_⟩) (by assumption) ?_
    rotate_left
    · (rintro w' ⟨⟨z0, z1, z2, z3, z4, z5, z6, z7, z8, z9, z10, z11, y0, y1, y2, y3, y4, y5, y6, y7, y8, y9, y10, y11, zL⟩⟩; go_simp; first | done | with_reducible rfl)
    simp only [Act.put, List.setIfInBounds_toArray, List.set_cons_zero, List.set_cons_succ]
    refine wpAnyH_ready (rs := [1]) (by kernel_rfl) (by simp) ?_
    refine AllReadyH.cons rfl (fun K hK => ?_) AllReadyH.nil
    go_simp
    go_at_call 17
    refine (C17.out _ hHeld.out).mono ?_
    rintro e w' ⟨rfl, hb⟩
    have hH2 := Aside0.mk (hHeld.out.next hb)
    refine hK.out _ _ hH2 (fun _ => ?_)
    clear hK K hHeld hb
    have hHeld := hH2
    clear hH2
    try simp only [Act.put, List.setIfInBounds_toArray, List.set_cons_zero, List.set_cons_succ]
    refine wpAnyH_ready (rs := [3]) (by kernel_rfl) (by simp) ?_
    refine AllReadyH.cons rfl (fun K hK => ?_) AllReadyH.nil
    go_simp
    go_at_call 18
    refine (C18.out _ hHeld.out).mono ?_
    rintro e w' ⟨rfl, hb⟩
    have hH2 := Aside0.mk (hHeld.out.next hb)
    refine hK.out _ _ hH2 (fun _ => ?_)
    clear hK K hHeld hb
    have hHeld := hH2
    clear hH2
    try simp only [Act.put, List.setIfInBounds_toArray, List.set_cons_zero, List.set_cons_succ]
    refine takeH (i := 4) (some 27) (v := ?_) rfl rfl (by kernel_rfl) (by kernel_rfl) (by kernel_rfl) (fun _ _ _ h => h) (Or.inl ⟨by kernel_rfl, ?_⟩) (by assumption) ?_
    rotate_left
    · (rintro w' ⟨⟨z0, z1, z2, z3, z4, z5, z6, z7, z8, z9, z10, z11, y0, y1, y2, y3, y4, y5, y6, y7, y8, y9, y10, y11, zL⟩⟩; go_simp; first | done | with_reducible rfl)
    simp only [Act.put, List.setIfInBounds_toArray, List.set_cons_zero, List.set_cons_succ]
    refine takeH (i := 5) (some 28) (v := ?_) rfl rfl (by kernel_rfl) (by kernel_rfl) (by kernel_rfl) (fun _ _ _ h => h) (Or.inl ⟨by kernel_rfl, ?_⟩) (by assumption) ?_
    rotate_left
    · (rintro w' ⟨⟨z0, z1, z2, z3, z4, z5, z6, z7, z8, z9, z10, z11, y0, y1, y2, y3, y4, y5, y6, y7, y8, y9, y10, y11, zL⟩⟩; go_simp; first | done | with_reducible rfl)
    simp only [Act.put, List.setIfInBounds_toArray, List.set_cons_zero, List.set_cons_succ]
    refine takeH (i := 6) (some 29) (v := ?_) rfl rfl (by kernel_rfl) (by kernel_rfl) (by kernel_rfl) (fun _ _ _ h => h) (Or.inl ⟨by kernel_rfl, ?_⟩) (by assumption) ?_
    rotate_left
    · (rintro w' ⟨⟨z0, z1, z2, z3, z4, z5, z6, z7, z8, z9, z10, z11, y0, y1, y2, y3, y4, y5, y6, y7, y8, y9, y10, y11, zL⟩⟩; go_simp; first | done | with_reducible rfl)
    simp only [Act.put, List.setIfInBounds_toArray, List.set_cons_zero, List.set_cons_succ]
    refine takeH (i := 7) (some 30) (v := ?_) rfl rfl (by kernel_rfl) (by kernel_rfl) (by kernel_rfl) (fun _ _ _ h => h) (Or.inl ⟨by kernel_rfl, ?_⟩) (by assumption) ?_
    rotate_left
    · (rintro w' ⟨⟨z0, z1, z2, z3, z4, z5, z6, z7, z8, z9, z10, z11, y0, y1, y2, y3, y4, y5, y6, y7, y8, y9, y10, y11, zL⟩⟩; go_simp; first | done | with_reducible rfl)
    simp only [Act.put, List.setIfInBounds_toArray, List.set_cons_zero, List.set_cons_succ]
    refine wpAnyH_ready (rs := [8]) (by kernel_rfl) (by simp) ?_
    refine AllReadyH.cons rfl (fun K hK => ?_) AllReadyH.nil
    go_simp
    go_at_call 12
    refine (C12.out _ hHeld.out).mono ?_
    rintro e w' ⟨rfl, hb⟩
    have hH2 := Aside0.mk (hHeld.out.next hb)
    refine hK.out _ _ hH2 (fun _ => ?_)
    clear hK K hHeld hb
    have hHeld := hH2
    clear hH2
    try simp only [Act.put, List.setIfInBounds_toArray, List.set_cons_zero, List.set_cons_succ]
    refine takeH (i := 9) (some 32) (v := ?_) rfl rfl (by kernel_rfl) (by kernel_rfl) (by kernel_rfl) (fun _ _ _ h => h) (Or.inl ⟨by kernel_rfl, ?_⟩) (by assumption) ?_
    rotate_left
    · (rintro w' ⟨⟨z0, z1, z2, z3, z4, z5, z6, z7, z8, z9, z10, z11, y0, y1, y2, y3, y4, y5, y6, y7, y8, y9, y10, y11, zL⟩⟩; go_simp; first | done | with_reducible rfl)
    simp only [Act.put, List.setIfInBounds_toArray, List.set_cons_zero, List.set_cons_succ]
    refine takeH (i := 10) (some 33) (v := ?_) rfl rfl (by kernel_rfl) (by kernel_rfl) (by kernel_rfl) (fun _ _ _ h => h) (Or.inl ⟨by kernel_rfl, ?_⟩) (by assumption) ?_
    rotate_left
    · (rintro w' ⟨⟨z0, z1, z2, z3, z4, z5, z6, z7, z8, z9, z10, z11, y0, y1, y2, y3, y4, y5, y6, y7, y8, y9, y10, y11, zL⟩⟩; go_simp; first | done | with_reducible rfl)
    simp only [Act.put, List.setIfInBounds_toArray, List.set_cons_zero, List.set_cons_succ]
    refine takeH (i := 11) (some 34) (v := ?_) rfl rfl (by kernel_rfl) (by kernel_rfl) (by kernel_rfl) (fun _ _ _ h => h) (Or.inl ⟨by kernel_rfl, ?_⟩) (by assumption) ?_
    rotate_left
    · (rintro w' ⟨⟨z0, z1, z2, z3, z4, z5, z6, z7, z8, z9, z10, z11, y0, y1, y2, y3, y4, y5, y6, y7, y8, y9, y10, y11, zL⟩⟩; go_simp; first | done | with_reducible rfl)
    simp only [Act.put, List.setIfInBounds_toArray, List.set_cons_zero, List.set_cons_succ]
    refine takeH (i := 12) (some 35) (v := ?_) rfl rfl (by kernel_rfl) (by kernel_rfl) (by kernel_rfl) (fun _ _ _ h => h) (Or.inl ⟨by kernel_rfl, ?_⟩) (by assumption) ?_
    rotate_left
    · (rintro w' ⟨⟨z0, z1, z2, z3, z4, z5, z6, z7, z8, z9, z10, z11, y0, y1, y2, y3, y4, y5, y6, y7, y8, y9, y10, y11, zL⟩⟩; go_simp; first | done | with_reducible rfl)
    simp only [Act.put, List.setIfInBounds_toArray, List.set_cons_zero, List.set_cons_succ]
    refine takeH (i := 13) (some 36) (v := ?_) rfl rfl (by kernel_rfl) (by kernel_rfl) (by kernel_rfl) (fun _ _ _ h => h) (Or.inl ⟨by kernel_rfl, ?_⟩) (by assumption) ?_
    rotate_left
    · (rintro w' ⟨⟨z0, z1, z2, z3, z4, z5, z6, z7, z8, z9, z10, z11, y0, y1, y2, y3, y4, y5, y6, y7, y8, y9, y10, y11, zL⟩⟩; go_simp; first | done | with_reducible rfl)
    simp only [Act.put, List.setIfInBounds_toArray, List.set_cons_zero, List.set_cons_succ]
    refine takeH (i := 14) (some 37) (v := ?_) rfl rfl (by kernel_rfl) (by kernel_rfl) (by kernel_rfl) (fun _ _ _ h => h) (Or.inl ⟨by kernel_rfl, ?_⟩) (by assumption) ?_
    rotate_left
    · (rintro w' ⟨⟨z0, z1, z2, z3, z4, z5, z6, z7, z8, z9, z10, z11, y0, y1, y2, y3, y4, y5, y6, y7, y8, y9, y10, y11, zL⟩⟩; go_simp; first | done | with_reducible rfl)
    simp only [Act.put, List.setIfInBounds_toArray, List.set_cons_zero, List.set_cons_succ]
    refine takeH (i := 15) (some 38) (v := ?_) rfl rfl (by kernel_rfl) (by kernel_rfl) (by kernel_rfl) (fun _ _ _ h => h) (Or.inl ⟨by kernel_rfl, ?_⟩) (by assumption) ?_
    rotate_left
    · (rintro w' ⟨⟨z0, z1, z2, z3, z4, z5, z6, z7, z8, z9, z10, z11, y0, y1, y2, y3, y4, y5, y6, y7, y8, y9, y10, y11, zL⟩⟩; go_simp; first | done | with_reducible rfl)
    simp only [Act.put, List.setIfInBounds_toArray, List.set_cons_zero, List.set_cons_succ]
    refine takeH (i := 16) (some 39) (v := ?_) rfl rfl (by kernel_rfl) (by kernel_rfl) (by kernel_rfl) (fun _ _ _ h => h) (Or.inl ⟨by kernel_rfl, ?_⟩) (by assumption) ?_
    rotate_left
    · (rintro w' ⟨⟨z0, z1, z2, z3, z4, z5, z6, z7, z8, z9, z10, z11, y0, y1, y2, y3, y4, y5, y6, y7, y8, y9, y10, y11, zL⟩⟩; go_simp; first | done | with_reducible rfl)
    simp only [Act.put, List.setIfInBounds_toArray, List.set_cons_zero, List.set_cons_succ]
    refine takeH (i := 17) (some 40) (v := ?_) rfl rfl (by kernel_rfl) (by kernel_rfl) (by kernel_rfl) (fun _ _ _ h => h) (Or.inl ⟨by kernel_rfl, ?_⟩) (by assumption) ?_
    rotate_left
    · (rintro w' ⟨⟨z0, z1, z2, z3, z4, z5, z6, z7, z8, z9, z10, z11, y0, y1, y2, y3, y4, y5, y6, y7, y8, y9, y10, y11, zL⟩⟩; go_simp; first | done | with_reducible rfl)
    simp only [Act.put, List.setIfInBounds_toArray, List.set_cons_zero, List.set_cons_succ]
    refine takeH (i := 19) (some 42) (v := ?_) rfl rfl (by kernel_rfl) (by kernel_rfl) (by kernel_rfl) (fun _ _ _ h => h) (Or.inl ⟨by kernel_rfl, ?_⟩) (by assumption) ?_
    rotate_left
    · (rintro w' ⟨⟨z0, z1, z2, z3, z4, z5, z6, z7, z8, z9, z10, z11, y0, y1, y2, y3, y4, y5, y6, y7, y8, y9, y10, y11, zL⟩⟩; go_simp; first | done | with_reducible rfl)
    simp only [Act.put, List.setIfInBounds_toArray, List.set_cons_zero, List.set_cons_succ]
    refine takeH (i := 20) (some 43) (v := ?_) rfl rfl (by kernel_rfl) (by kernel_rfl) (by kernel_rfl) (fun _ _ _ h => h) (Or.inl ⟨by kernel_rfl, ?_⟩) (by assumption) ?_
    rotate_left
    · (rintro w' ⟨⟨z0, z1, z2, z3, z4, z5, z6, z7, z8, z9, z10, z11, y0, y1, y2, y3, y4, y5, y6, y7, y8, y9, y10, y11, zL⟩⟩; go_simp; first | done | with_reducible rfl)
    simp only [Act.put, List.setIfInBounds_toArray, List.set_cons_zero, List.set_cons_succ]
    refine wpAnyH_ready (rs := [18]) (by kernel_rfl) (by simp) ?_
    refine AllReadyH.cons rfl (fun K hK => ?_) AllReadyH.nil
    go_simp
    go_at_call 19
    refine (C19.out _ hHeld.out).mono ?_
    rintro e w' ⟨rfl, hb⟩
    have hH2 := Aside0.mk (hHeld.out.next hb)
    refine hK.out _ _ hH2 (fun _ => ?_)
    clear hK K hHeld hb
    have hHeld := hH2
    clear hH2
    try simp only [Act.put, List.setIfInBounds_toArray, List.set_cons_zero, List.set_cons_succ]
    refine wpAnyH_ready (rs := [21]) (by kernel_rfl) (by simp) ?_
    refine AllReadyH.cons rfl (fun K hK => ?_) AllReadyH.nil
    go_simp
    go_at_call 20
    refine (C20.out _ hHeld.out).mono ?_
    rintro e w' ⟨rfl, hb⟩
    have hH2 := Aside0.mk (hHeld.out.next hb)
    refine hK.out _ _ hH2 (fun _ => ?_)
    clear hK K hHeld hb
    have hHeld := hH2
    clear hH2
    try simp only [Act.put, List.setIfInBounds_toArray, List.set_cons_zero, List.set_cons_succ]
    refine takeH (i := 22) (some 45) (v := ?_) rfl rfl (by kernel_rfl) (by kernel_rfl) (by kernel_rfl) (fun _ _ _ h => h) (Or.inl ⟨by kernel_rfl, ?_⟩) (by assumption) ?_
    rotate_left
    · (rintro w' ⟨⟨z0, z1, z2, z3, z4, z5, z6, z7, z8, z9, z10, z11, y0, y1, y2, y3, y4, y5, y6, y7, y8, y9, y10, y11, zL⟩⟩; go_simp; first | done | with_reducible rfl)
    simp only [Act.put, List.setIfInBounds_toArray, List.set_cons_zero, List.set_cons_succ]
    refine takeH (i := 23) (some 46) (v := ?_) rfl rfl (by kernel_rfl) (by kernel_rfl) (by kernel_rfl) (fun _ _ _ h => h) (Or.inl ⟨by kernel_rfl, ?_⟩) (by assumption) ?_
    rotate_left
    · (rintro w' ⟨⟨z0, z1, z2, z3, z4, z5, z6, z7, z8, z9, z10, z11, y0, y1, y2, y3, y4, y5, y6, y7, y8, y9, y10, y11, zL⟩⟩; go_simp; first | done | with_reducible rfl)
    simp only [Act.put, List.setIfInBounds_toArray, List.set_cons_zero, List.set_cons_succ]
    refine takeH (i := 24) (some 47) (v := ?_) rfl rfl (by kernel_rfl) (by kernel_rfl) (by kernel_rfl) (fun _ _ _ h => h) (Or.inl ⟨by kernel_rfl, ?_⟩) (by assumption) ?_
    rotate_left
    · (rintro w' ⟨⟨z0, z1, z2, z3, z4, z5, z6, z7, z8, z9, z10, z11, y0, y1, y2, y3, y4, y5, y6, y7, y8, y9, y10, y11, zL⟩⟩; go_simp; first | done | with_reducible rfl)
    simp only [Act.put, List.setIfInBounds_toArray, List.set_cons_zero, List.set_cons_succ]
    refine takeH (i := 25) (some 48) (v := ?_) rfl rfl (by kernel_rfl) (by kernel_rfl) (by kernel_rfl) (fun _ _ _ h => h) (Or.inl ⟨by kernel_rfl, ?_⟩) (by assumption) ?_
    rotate_left
    · (rintro w' ⟨⟨z0, z1, z2, z3, z4, z5, z6, z7, z8, z9, z10, z11, y0, y1, y2, y3, y4, y5, y6, y7, y8, y9, y10, y11, zL⟩⟩; go_simp; first | done | with_reducible rfl)
    simp only [Act.put, List.setIfInBounds_toArray, List.set_cons_zero, List.set_cons_succ]
    refine takeH (i := 26) (some 49) (v := ?_) rfl rfl (by kernel_rfl) (by kernel_rfl) (by kernel_rfl) (fun _ _ _ h => h) (Or.inl ⟨by kernel_rfl, ?_⟩) (by assumption) ?_
    rotate_left
    · (rintro w' ⟨⟨z0, z1, z2, z3, z4, z5, z6, z7, z8, z9, z10, z11, y0, y1, y2, y3, y4, y5, y6, y7, y8, y9, y10, y11, zL⟩⟩; go_simp; first | done | with_reducible rfl)
    simp only [Act.put, List.setIfInBounds_toArray, List.set_cons_zero, List.set_cons_succ]
    refine wpAnyH_ready (rs := [27]) (by kernel_rfl) (by simp) ?_
    refine AllReadyH.cons rfl (fun K hK => ?_) AllReadyH.nil
    go_simp
    go_at_call 19
    refine (C19s.out _ hHeld.out).mono ?_
    rintro e w' ⟨rfl, hb⟩
    have hH2 := Aside0.mk (hHeld.out.next hb)
    refine hK.out _ _ hH2 (fun _ => ?_)
    clear hK K hHeld hb
    have hHeld := hH2
    clear hH2
    try simp only [Act.put, List.setIfInBounds_toArray, List.set_cons_zero, List.set_cons_succ]
    refine takeH (i := 28) (some 51) (v := ?_) rfl rfl (by kernel_rfl) (by kernel_rfl) (by kernel_rfl) (fun _ _ _ h => h) (Or.inl ⟨by kernel_rfl, ?_⟩) (by assumption) ?_
    rotate_left
    · (rintro w' ⟨⟨z0, z1, z2, z3, z4, z5, z6, z7, z8, z9, z10, z11, y0, y1, y2, y3, y4, y5, y6, y7, y8, y9, y10, y11, zL⟩⟩; go_simp; first | done | with_reducible rfl)
    simp only [Act.put, List.setIfInBounds_toArray, List.set_cons_zero, List.set_cons_succ]
    refine takeH (i := 29) (some 52) (v := ?_) rfl rfl (by kernel_rfl) (by kernel_rfl) (by kernel_rfl) (fun _ _ _ h => h) (Or.inl ⟨by kernel_rfl, ?_⟩) (by assumption) ?_
    rotate_left
    · (rintro w' ⟨⟨z0, z1, z2, z3, z4, z5, z6, z7, z8, z9, z10, z11, y0, y1, y2, y3, y4, y5, y6, y7, y8, y9, y10, y11, zL⟩⟩; go_simp; first | done | with_reducible rfl)
    simp only [Act.put, List.setIfInBounds_toArray, List.set_cons_zero, List.set_cons_succ]
    refine wpAnyH_ready (rs := [30]) (by kernel_rfl) (by simp) ?_
    refine AllReadyH.cons rfl (fun K hK => ?_) AllReadyH.nil
    go_simp
    go_at_call 13
    refine (C13.out _ hHeld.out).mono ?_
    rintro e w' ⟨rfl, hb⟩
    have hH2 := Aside0.mk (hHeld.out.next hb)
    refine hK.out _ _ hH2 (fun _ => ?_)
    clear hK K hHeld hb
    have hHeld := hH2
    clear hH2
    try simp only [Act.put, List.setIfInBounds_toArray, List.set_cons_zero, List.set_cons_succ]
    refine takeH (i := 31) (some 54) (v := ?_) rfl rfl (by kernel_rfl) (by kernel_rfl) (by kernel_rfl) (fun _ _ _ h => h) (Or.inl ⟨by kernel_rfl, ?_⟩) (by assumption) ?_
    rotate_left
    · (rintro w' ⟨⟨z0, z1, z2, z3, z4, z5, z6, z7, z8, z9, z10, z11, y0, y1, y2, y3, y4, y5, y6, y7, y8, y9, y10, y11, zL⟩⟩; go_simp; first | done | with_reducible rfl)
    simp only [Act.put, List.setIfInBounds_toArray, List.set_cons_zero, List.set_cons_succ]
    refine takeH (i := 32) (some 4) (v := ?_) rfl rfl (by kernel_rfl) (by kernel_rfl) (by kernel_rfl) (fun _ _ _ h => h) (Or.inl ⟨by kernel_rfl, ?_⟩) (by assumption) ?_
    rotate_left
    · (rintro w' ⟨⟨z0, z1, z2, z3, z4, z5, z6, z7, z8, z9, z10, z11, y0, y1, y2, y3, y4, y5, y6, y7, y8, y9, y10, y11, zL⟩⟩; go_simp; first | done | with_reducible rfl)
    simp only [Act.put, List.setIfInBounds_toArray, List.set_cons_zero, List.set_cons_succ]
    refine wpAnyH_done (by kernel_rfl) ?_ _
    have HBE := Aside0.mk (HBW.out _ hHeld.out)
    clear C17 C18 C12 C19 C20 C19s C13 hHeld
    go_wp2_with fail
    go_ret
    exact ⟨rfl, HBE.out⟩
end Go.Proofs.YtmeblifbkhpdnaaDoor.K
