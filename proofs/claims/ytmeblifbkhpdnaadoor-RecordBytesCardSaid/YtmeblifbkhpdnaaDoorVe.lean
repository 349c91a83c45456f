/- Texts of this claim, put together: what its theorem does not use is left out. No conditions. -/
import Derived.Test.YtmeblifbkhpdnaaDoorVd
namespace Go.Proofs.YtmeblifbkhpdnaaDoorW.PrintLast
theorem i64_w (n : Int) : Go.IntKind.i64.wrap n = Go.RowKit.wrap64 n := by unfold Go.RowKit.wrap64; exact Go.IntKind.wrap_i64 n
theorem i32_w (n : Int) : Go.IntKind.i32.wrap n = Go.RowKit.wrap32 n := by unfold Go.RowKit.wrap32; exact Go.IntKind.wrap_i32 n
end Go.Proofs.YtmeblifbkhpdnaaDoorW.PrintLast
namespace Go.Proofs.YtmeblifbkhpdnaaDoor.K
set_option linter.unusedVariables false
set_option linter.unusedSimpArgs false
open Go.RowKit Go.Proofs.YtmeblifbkhpdnaaDoorW.PrintWords Go.Proofs.YtmeblifbkhpdnaaDoorW.PrintLast Go.Proofs.YtmeblifbkhpdnaaDoorW.PrintMore
attribute [local go_sem] max2_int min2_int max_two min_two max_three min_three max_four min_four
def gimbalref04_SameRow.l0 : Nat → List (S38) → List (S38) → Int → Option (Bool)
  | 0, _, _, _ => none
  | k + 1, x0, x1, x5 => if x5 < (x0.length : Int) then (if 0 ≤ x5 then (if x5 < (x1.length : Int) then ((gimbalref04_Same.f k ((rd_T38 x0 x5).f0) ((rd_T38 x0 x5).f1) ((rd_T38 x0 x5).f2.f0) ((rd_T38 x0 x5).f2.f1) ((rd_T38 x0 x5).f2.f2) ((rd_T38 x0 x5).f2.f3) ((rd_T38 x0 x5).f2.f4) ((rd_T38 x1 x5).f0) ((rd_T38 x1 x5).f1) ((rd_T38 x1 x5).f2.f0) ((rd_T38 x1 x5).f2.f1) ((rd_T38 x1 x5).f2.f2) ((rd_T38 x1 x5).f2.f3) ((rd_T38 x1 x5).f2.f4)).bind fun t232 => (if t232 = true then (gimbalref04_SameRow.l0 k x0 x1 (wrap64 (x5 + 1))) else (some false))) else (none)) else (none)) else (some true)
def gimbalref04_SameRow.f (k : Nat) (l0 : List (S38)) (l1 : List (S38)) : Option (Bool) := if (l0.length : Int) = (l1.length : Int) then (gimbalref04_SameRow.l0 k l0 l1 0) else (some false)
def gimbalref04_SameRow.T6 : Bool × List (List Nat × List Nat) := (true, [([], []), ([], []), ([0, 1], [0, 1]), ([2], [2]), ([], []), ([], []), ([4, 5], [4, 5]), ([6], [6]), ([3, 7], [3, 7]), ([8], [8])])
def gimbalref04_SameRow.B6 : List Nat := [0, 0, 3, 7, 0, 0, 48, 112, 255, 511]
theorem gimbalref04_SameRow.tab6 : rtab .any (opsOf Tryd.f51 6) = gimbalref04_SameRow.T6 := by kernel_rfl
theorem gimbalref04_SameRow.bits6 : waitsOk gimbalref04_SameRow.T6.2 gimbalref04_SameRow.B6 = true := by kernel_rfl
set_option maxHeartbeats 8000000 in
set_option maxRecDepth 100000 in
theorem gimbalref04_SameRow.calls (k : Nat) (A0 : Option Addr) (c0 : Nat) (l0 : List (S38)) (A1 : Option Addr) (c1 : Nat) (l1 : List (S38)) (r : Bool) (w : World) (hr0 : Kd.C k38 w A0 l0.length l0) (hc0 : l0.length ≤ c0) (hr1 : Kd.C k38 w A1 l1.length l1) (hc1 : l1.length ≤ c1) (h : gimbalref04_SameRow.f k l0 l1 = some r) :
    Calls Tryd.prog 51 #[.slice A0 l0.length c0, .slice A1 l1.length c1] w fun e w' => e = .returned (.bool r) ∧ Below w.heap.size w w' := by
  have hu38 := Tryd.underlying38
  have HR0 := Aside0.mk hr0
  have HC0 := Aside0.mk hc0
  clear hr0 hc0
  have HR1 := Aside0.mk hr1
  have HC1 := Aside0.mk hc1
  clear hr1 hc1
  have HB := Aside0.mk (Below.refl w.heap.size w)
  have H : (if (l0.length : Int) = (l1.length : Int) then (gimbalref04_SameRow.l0 k l0 l1 0) else (some false)) = some r := h
  clear h
  by_cases c3 : (l0.length : Int) = (l1.length : Int)
  · rw [if_pos c3] at H
    have c3b0 : ((l0.length : Int) == (l1.length : Int)) = true := beq_iff_eq.mpr c3
    have c3b1 : ((l0.length : Int) != (l1.length : Int)) = false := bne_eq_false_iff_eq.mpr c3
    have c3b2 : (l0.length == l1.length) = true := by first | simpa using c3 | (simp at c3 ⊢; omega)
    clear c3
    have H' := Aside0.mk H
    clear H
    go_enter Tryd.func51, Tryd.ntmps51
    go_wp2
    go_loopg [5] k (fun kq v5 w' => ∃ (x5_1 : Int), v5 = .int .i64 x5_1 ∧ Aside0 (gimbalref04_SameRow.l0 kq l0 l1 x5_1 = some r) ∧ Aside0 (kq ≤ k) ∧ Aside0 (Below w.heap.size w w'))
    case atStart => exact ⟨(0), (by first | rfl | (simp; done) | (simp [*]; done)), H', ⟨Nat.le_refl _⟩, ⟨by repeat (first | (with_reducible first | exact HB.out | apply below_alloc | apply pw_below_drewN | apply below_drew1) | exact HB.out)⟩⟩
    case round =>
      clear H'
      try clear c1
      try clear p2
      try clear c3
      try clear c3b0
      try clear c3b1
      try clear c3b2
      obtain ⟨x5_1, rfl, HA, HK1, HB⟩ := hrel
      cases gk with
      | zero => exact absurd HA.out (by simp [gimbalref04_SameRow.l0])
      | succ k1 =>
        have H := HA.out
        clear HA
        simp only [gimbalref04_SameRow.l0] at H
        by_cases c4 : x5_1 < (l0.length : Int)
        · rw [if_pos c4] at H
          have c4b0 : decide (x5_1 < (l0.length : Int)) = true := decide_eq_true c4
          clear c4
          by_cases c5 : 0 ≤ x5_1
          · rw [if_pos c5] at H
            have c5b0 : decide (0 ≤ x5_1) = true := decide_eq_true c5
            clear c5
            by_cases c6 : x5_1 < (l1.length : Int)
            · rw [if_pos c6] at H
              have c6b0 : decide (x5_1 < (l1.length : Int)) = true := decide_eq_true c6
              clear c6
              replace H := Option.bind_eq_some_iff.mp H
              obtain ⟨t232, A70, H⟩ := H
              replace H : (if t232 = true then (gimbalref04_SameRow.l0 k1 l0 l1 (wrap64 (x5_1 + 1))) else (some false)) = some r := H
              have A7 := Aside0.mk A70
              clear A70
              by_cases c8 : t232 = true
              · subst c8
                have H1 : (gimbalref04_SameRow.l0 k1 l0 l1 (wrap64 (x5_1 + 1))) = some r := by rw [if_pos rfl] at H; exact H
                clear H
                have H := H1
                clear H1
                have H' := Aside0.mk H
                clear H
                try go_wp2
                have n0_ := Aside0.mk (below_drew1 HB.out)
                clear HB
                have HB := n0_
                clear n0_
                have p230 : 0 ≤ (x5_1 : Int) := of_decide_eq_true (by first | (with_reducible assumption) | assumption)
                have q230 : x5_1 < (l0.length : Int) := of_decide_eq_true (by first | (with_reducible assumption) | assumption)
                obtain ⟨ad230, A230_6, c230_6, e230, hx230_0, hx230_1, hx230_2, hx230_3, hx230_4, hx230_5, hx230_6, hl230_6, hi230_6⟩ := at_T38 HR0.out x5_1 p230 q230
                have hw230_6 := hx230_6
                have hw230_5 := hx230_5
                have hw230_4 := hx230_4
                have hw230_3 := hx230_3
                have hw230_2 := hx230_2
                have hw230_1 := hx230_1
                have hw230_0 := hx230_0
                cases e230
                replace hx230_0 := (HB.out.cell (World.block_lt_of_cell? w _ hx230_0)).trans hx230_0
                replace hx230_1 := (HB.out.cell (World.block_lt_of_cell? w _ hx230_1)).trans hx230_1
                replace hx230_2 := (HB.out.cell (World.block_lt_of_cell? w _ hx230_2)).trans hx230_2
                replace hx230_3 := (HB.out.cell (World.block_lt_of_cell? w _ hx230_3)).trans hx230_3
                replace hx230_4 := (HB.out.cell (World.block_lt_of_cell? w _ hx230_4)).trans hx230_4
                replace hx230_5 := (HB.out.cell (World.block_lt_of_cell? w _ hx230_5)).trans hx230_5
                replace hx230_6 := (HB.out.cell (World.block_lt_of_cell? w _ hx230_6)).trans hx230_6
                have HR230_6 := Aside0.mk hi230_6
                have HC230_6 := Aside0.mk hl230_6
                clear hi230_6 hl230_6
                replace p230 := eq_true p230
                replace q230 := eq_true q230
                have p231 : 0 ≤ (x5_1 : Int) := of_decide_eq_true (by first | (with_reducible assumption) | assumption)
                have q231 : x5_1 < (l1.length : Int) := of_decide_eq_true (by first | (with_reducible assumption) | assumption)
                obtain ⟨ad231, A231_6, c231_6, e231, hx231_0, hx231_1, hx231_2, hx231_3, hx231_4, hx231_5, hx231_6, hl231_6, hi231_6⟩ := at_T38 HR1.out x5_1 p231 q231
                have hw231_6 := hx231_6
                have hw231_5 := hx231_5
                have hw231_4 := hx231_4
                have hw231_3 := hx231_3
                have hw231_2 := hx231_2
                have hw231_1 := hx231_1
                have hw231_0 := hx231_0
                cases e231
                replace hx231_0 := (HB.out.cell (World.block_lt_of_cell? w _ hx231_0)).trans hx231_0
                replace hx231_1 := (HB.out.cell (World.block_lt_of_cell? w _ hx231_1)).trans hx231_1
                replace hx231_2 := (HB.out.cell (World.block_lt_of_cell? w _ hx231_2)).trans hx231_2
                replace hx231_3 := (HB.out.cell (World.block_lt_of_cell? w _ hx231_3)).trans hx231_3
                replace hx231_4 := (HB.out.cell (World.block_lt_of_cell? w _ hx231_4)).trans hx231_4
                replace hx231_5 := (HB.out.cell (World.block_lt_of_cell? w _ hx231_5)).trans hx231_5
                replace hx231_6 := (HB.out.cell (World.block_lt_of_cell? w _ hx231_6)).trans hx231_6
                have HR231_6 := Aside0.mk hi231_6
                have HC231_6 := Aside0.mk hl231_6
                clear hi231_6 hl231_6
                replace p231 := eq_true p231
                replace q231 := eq_true q231
                refine start_ (n := 10) (S := fun w' => w'.cell? (ad230.add ((x5_1).toNat * 7)) = some (.int .i64 ((rd_T38 l0 x5_1).f0)) ∧ w'.cell? ⟨(ad230.add ((x5_1).toNat * 7)).block, (ad230.add ((x5_1).toNat * 7)).off + 1, none⟩ = some (.int .i64 ((rd_T38 l0 x5_1).f1)) ∧ w'.cell? ⟨(ad230.add ((x5_1).toNat * 7)).block, (ad230.add ((x5_1).toNat * 7)).off + 2, none⟩ = some (.int .i64 ((rd_T38 l0 x5_1).f2.f0)) ∧ w'.cell? ⟨(ad230.add ((x5_1).toNat * 7)).block, (ad230.add ((x5_1).toNat * 7)).off + 3, none⟩ = some (.string ((rd_T38 l0 x5_1).f2.f1)) ∧ w'.cell? ⟨(ad230.add ((x5_1).toNat * 7)).block, (ad230.add ((x5_1).toNat * 7)).off + 4, none⟩ = some (.int .i64 ((rd_T38 l0 x5_1).f2.f2)) ∧ w'.cell? ⟨(ad230.add ((x5_1).toNat * 7)).block, (ad230.add ((x5_1).toNat * 7)).off + 5, none⟩ = some (.int .i64 ((rd_T38 l0 x5_1).f2.f3)) ∧ w'.cell? ⟨(ad230.add ((x5_1).toNat * 7)).block, (ad230.add ((x5_1).toNat * 7)).off + 6, none⟩ = some (.slice A230_6 ((rd_T38 l0 x5_1).f2.f4).length c230_6) ∧ w'.cell? (ad231.add ((x5_1).toNat * 7)) = some (.int .i64 ((rd_T38 l1 x5_1).f0)) ∧ w'.cell? ⟨(ad231.add ((x5_1).toNat * 7)).block, (ad231.add ((x5_1).toNat * 7)).off + 1, none⟩ = some (.int .i64 ((rd_T38 l1 x5_1).f1)) ∧ w'.cell? ⟨(ad231.add ((x5_1).toNat * 7)).block, (ad231.add ((x5_1).toNat * 7)).off + 2, none⟩ = some (.int .i64 ((rd_T38 l1 x5_1).f2.f0)) ∧ w'.cell? ⟨(ad231.add ((x5_1).toNat * 7)).block, (ad231.add ((x5_1).toNat * 7)).off + 3, none⟩ = some (.string ((rd_T38 l1 x5_1).f2.f1)) ∧ w'.cell? ⟨(ad231.add ((x5_1).toNat * 7)).block, (ad231.add ((x5_1).toNat * 7)).off + 4, none⟩ = some (.int .i64 ((rd_T38 l1 x5_1).f2.f2)) ∧ w'.cell? ⟨(ad231.add ((x5_1).toNat * 7)).block, (ad231.add ((x5_1).toNat * 7)).off + 5, none⟩ = some (.int .i64 ((rd_T38 l1 x5_1).f2.f3)) ∧ w'.cell? ⟨(ad231.add ((x5_1).toNat * 7)).block, (ad231.add ((x5_1).toNat * 7)).off + 6, none⟩ = some (.slice A231_6 ((rd_T38 l1 x5_1).f2.f4).length c231_6)) (ds := []) #[false, false, false, false, false, false, false, false, false, false] (by kernel_rfl) rfl rfl ⟨((HB.out.cell (World.block_lt_of_cell? w _ hw230_0)).trans hw230_0), ((HB.out.cell (World.block_lt_of_cell? w _ hw230_1)).trans hw230_1), ((HB.out.cell (World.block_lt_of_cell? w _ hw230_2)).trans hw230_2), ((HB.out.cell (World.block_lt_of_cell? w _ hw230_3)).trans hw230_3), ((HB.out.cell (World.block_lt_of_cell? w _ hw230_4)).trans hw230_4), ((HB.out.cell (World.block_lt_of_cell? w _ hw230_5)).trans hw230_5), ((HB.out.cell (World.block_lt_of_cell? w _ hw230_6)).trans hw230_6), ((HB.out.cell (World.block_lt_of_cell? w _ hw231_0)).trans hw231_0), ((HB.out.cell (World.block_lt_of_cell? w _ hw231_1)).trans hw231_1), ((HB.out.cell (World.block_lt_of_cell? w _ hw231_2)).trans hw231_2), ((HB.out.cell (World.block_lt_of_cell? w _ hw231_3)).trans hw231_3), ((HB.out.cell (World.block_lt_of_cell? w _ hw231_4)).trans hw231_4), ((HB.out.cell (World.block_lt_of_cell? w _ hw231_5)).trans hw231_5), ((HB.out.cell (World.block_lt_of_cell? w _ hw231_6)).trans hw231_6)⟩ (fun hHeld => ?_); refine with_tabW gimbalref04_SameRow.tab6 gimbalref04_SameRow.bits6 (fun HT_ HW_ => ?_)
                generalize wr.drew = w9 at HB HR230_6 HR231_6 hx230_0 hx230_1 hx230_2 hx230_3 hx230_4 hx230_5 hx230_6 hx231_0 hx231_1 hx231_2 hx231_3 hx231_4 hx231_5 hx231_6 hHeld ⊢
                refine pure_ (i := 0) (N := some 17) (v := ?_) (a' := ?_) #[true, false, false, false, false, false, false, false, false, false] rfl rfl (any_of HT_.out (by kernel_rfl)) (fun _ _ _ h => h) (Or.inl ⟨by rfl, ?_⟩) ?_ ?_
                rotate_left
                · intro w'
                  go_simp
                  with_reducible rfl
                rotate_left
                · simp only [Act.put, List.setIfInBounds_toArray, List.set_cons_zero, List.set_cons_succ, i64_w, i32_w]
                  rfl
                refine pure_ (i := 1) (N := some 18) (v := ?_) (a' := ?_) #[true, true, false, false, false, false, false, false, false, false] rfl rfl (any_of HT_.out (by kernel_rfl)) (fun _ _ _ h => h) (Or.inl ⟨by rfl, ?_⟩) ?_ ?_
                rotate_left
                · intro w'
                  go_simp
                  with_reducible rfl
                rotate_left
                · simp only [Act.put, List.setIfInBounds_toArray, List.set_cons_zero, List.set_cons_succ, i64_w, i32_w]
                  rfl
                refine pure_ (i := 2) (N := some 19) (v := ?_) (a' := ?_) #[true, true, true, false, false, false, false, false, false, false] rfl rfl (any_of HT_.out (by kernel_rfl)) (fun _ _ _ h => h) (Or.inl ⟨by rfl, ?_⟩) ?_ ?_
                rotate_left
                · intro w'
                  go_simp
                  with_reducible rfl
                rotate_left
                · simp only [Act.put, List.setIfInBounds_toArray, List.set_cons_zero, List.set_cons_succ, i64_w, i32_w]
                  rfl
                refine pure_ (i := 4) (N := some 21) (v := ?_) (a' := ?_) #[true, true, true, false, true, false, false, false, false, false] rfl rfl (any_of HT_.out (by kernel_rfl)) (fun _ _ _ h => h) (Or.inl ⟨by rfl, ?_⟩) ?_ ?_
                rotate_left
                · intro w'
                  go_simp
                  with_reducible rfl
                rotate_left
                · simp only [Act.put, List.setIfInBounds_toArray, List.set_cons_zero, List.set_cons_succ, i64_w, i32_w]
                  rfl
                refine pure_ (i := 5) (N := some 22) (v := ?_) (a' := ?_) #[true, true, true, false, true, true, false, false, false, false] rfl rfl (any_of HT_.out (by kernel_rfl)) (fun _ _ _ h => h) (Or.inl ⟨by rfl, ?_⟩) ?_ ?_
                rotate_left
                · intro w'
                  go_simp
                  with_reducible rfl
                rotate_left
                · simp only [Act.put, List.setIfInBounds_toArray, List.set_cons_zero, List.set_cons_succ, i64_w, i32_w]
                  rfl
                refine pure_ (i := 6) (N := some 23) (v := ?_) (a' := ?_) #[true, true, true, false, true, true, true, false, false, false] rfl rfl (any_of HT_.out (by kernel_rfl)) (fun _ _ _ h => h) (Or.inl ⟨by rfl, ?_⟩) ?_ ?_
                rotate_left
                · intro w'
                  go_simp
                  with_reducible rfl
                rotate_left
                · simp only [Act.put, List.setIfInBounds_toArray, List.set_cons_zero, List.set_cons_succ, i64_w, i32_w]
                  rfl
                refine take_ (i := 3) (N := some 20) (v := ?_) (a' := ?_) #[true, true, true, true, true, true, true, false, false, false] rfl rfl (take_ofW HT_.out HW_.out (by kernel_rfl)) (fun _ _ _ h => h) (Or.inl ⟨by rfl, ?_⟩) hHeld ?_ ?_
                rotate_left
                · rintro w' ⟨s0, s1, s2, s3, s4, s5, s6, s7, s8, s9, s10, s11, s12, s13⟩
                  go_simp
                  with_reducible rfl
                rotate_left
                · simp only [Act.put, List.setIfInBounds_toArray, List.set_cons_zero, List.set_cons_succ, i64_w, i32_w]
                  rfl
                refine take_ (i := 7) (N := some 24) (v := ?_) (a' := ?_) #[true, true, true, true, true, true, true, true, false, false] rfl rfl (take_ofW HT_.out HW_.out (by kernel_rfl)) (fun _ _ _ h => h) (Or.inl ⟨by rfl, ?_⟩) hHeld ?_ ?_
                rotate_left
                · rintro w' ⟨s0, s1, s2, s3, s4, s5, s6, s7, s8, s9, s10, s11, s12, s13⟩
                  go_simp
                  with_reducible rfl
                rotate_left
                · simp only [Act.put, List.setIfInBounds_toArray, List.set_cons_zero, List.set_cons_succ, i64_w, i32_w]
                  rfl
                refine one_ (i := 8) (N := some 25) #[true, true, true, true, true, true, true, true, true, false] rfl rfl (one_of HT_.out (by kernel_rfl)) (by decide) (fun K hK => ?_)
                refine goes_ Tryd.func50 (by kernel_rfl) rfl #[.agg #[.int .i64 ((rd_T38 l0 x5_1).f0), .int .i64 ((rd_T38 l0 x5_1).f1), .int .i64 ((rd_T38 l0 x5_1).f2.f0), .string ((rd_T38 l0 x5_1).f2.f1), .int .i64 ((rd_T38 l0 x5_1).f2.f2), .int .i64 ((rd_T38 l0 x5_1).f2.f3), .slice A230_6 ((rd_T38 l0 x5_1).f2.f4).length c230_6], .agg #[.int .i64 ((rd_T38 l1 x5_1).f0), .int .i64 ((rd_T38 l1 x5_1).f1), .int .i64 ((rd_T38 l1 x5_1).f2.f0), .string ((rd_T38 l1 x5_1).f2.f1), .int .i64 ((rd_T38 l1 x5_1).f2.f2), .int .i64 ((rd_T38 l1 x5_1).f2.f3), .slice A231_6 ((rd_T38 l1 x5_1).f2.f4).length c231_6]] (by rfl) rfl rfl (by (try simp only [List.map_toArray, List.map_cons, List.map_nil]); first | done | rfl | (simp only [List.length_drop, List.length_take]; rfl)) ?_
                with_reducible refine (gimbalref04_Same.calls k1 ((rd_T38 l0 x5_1).f0) ((rd_T38 l0 x5_1).f1) ((rd_T38 l0 x5_1).f2.f0) ((rd_T38 l0 x5_1).f2.f1) ((rd_T38 l0 x5_1).f2.f2) ((rd_T38 l0 x5_1).f2.f3) _ _ ((rd_T38 l0 x5_1).f2.f4) ((rd_T38 l1 x5_1).f0) ((rd_T38 l1 x5_1).f1) ((rd_T38 l1 x5_1).f2.f0) ((rd_T38 l1 x5_1).f2.f1) ((rd_T38 l1 x5_1).f2.f2) ((rd_T38 l1 x5_1).f2.f3) _ _ ((rd_T38 l1 x5_1).f2.f4) true _ ?side1 ?side2 ?side3 ?side4 A7.out).mono ?_
                (case side1 => repeat (first | exact (Kd.C_below HR230_6.out HB.out) | (with_reducible refine Kd.C_alloc ?_ _) | (with_reducible refine Kd.C_drewN ?_ _) | (with_reducible refine Kd.C_drew ?_)))
                (case side2 => exact HC230_6.out)
                (case side3 => repeat (first | exact (Kd.C_below HR231_6.out HB.out) | (with_reducible refine Kd.C_alloc ?_ _) | (with_reducible refine Kd.C_drewN ?_ _) | (with_reducible refine Kd.C_drew ?_)))
                (case side4 => exact HC231_6.out)
                rintro e w10 ⟨rfl, hb⟩
                refine ⟨_, rfl, ?_⟩
                have n0_ := Aside0.mk (below_step (by repeat (first | (with_reducible first | exact HB.out | apply below_alloc | apply pw_below_drewN | apply below_drew1) | exact HB.out)) hb)
                clear HB
                have HB := n0_
                clear n0_
                (try clear hb)
                (try clear hb2)
                (try clear hk)
                (try clear hi)
                refine hK.out _ _ ⟨((HB.out.cell (World.block_lt_of_cell? w _ hw230_0)).trans hw230_0), ((HB.out.cell (World.block_lt_of_cell? w _ hw230_1)).trans hw230_1), ((HB.out.cell (World.block_lt_of_cell? w _ hw230_2)).trans hw230_2), ((HB.out.cell (World.block_lt_of_cell? w _ hw230_3)).trans hw230_3), ((HB.out.cell (World.block_lt_of_cell? w _ hw230_4)).trans hw230_4), ((HB.out.cell (World.block_lt_of_cell? w _ hw230_5)).trans hw230_5), ((HB.out.cell (World.block_lt_of_cell? w _ hw230_6)).trans hw230_6), ((HB.out.cell (World.block_lt_of_cell? w _ hw231_0)).trans hw231_0), ((HB.out.cell (World.block_lt_of_cell? w _ hw231_1)).trans hw231_1), ((HB.out.cell (World.block_lt_of_cell? w _ hw231_2)).trans hw231_2), ((HB.out.cell (World.block_lt_of_cell? w _ hw231_3)).trans hw231_3), ((HB.out.cell (World.block_lt_of_cell? w _ hw231_4)).trans hw231_4), ((HB.out.cell (World.block_lt_of_cell? w _ hw231_5)).trans hw231_5), ((HB.out.cell (World.block_lt_of_cell? w _ hw231_6)).trans hw231_6)⟩ (fun hHeld => ?_)
                clear hK K
                refine norm_ (a' := ?_) ?_ ?_
                rotate_left
                · show Act.put _ (some 25) _ = _
                  simp only [Act.put, List.setIfInBounds_toArray, List.set_cons_zero, List.set_cons_succ, i64_w, i32_w]
                  rfl
                refine pure_ (i := 9) (N := some 26) (v := ?_) (a' := ?_) #[true, true, true, true, true, true, true, true, true, true] rfl rfl (any_of HT_.out (by kernel_rfl)) (fun _ _ _ h => h) (Or.inl ⟨by rfl, ?_⟩) ?_ ?_
                rotate_left
                · intro w'
                  go_simp
                  with_reducible rfl
                rotate_left
                · simp only [Act.put, List.setIfInBounds_toArray, List.set_cons_zero, List.set_cons_succ, i64_w, i32_w]
                  rfl
                refine done_ (done_of HT_.out (by kernel_rfl)) ?_
                try go_wp2
                go_roundg k1
                case measure => have := HK1.out; omega
                case rel => exact ⟨(wrap64 (x5_1 + 1)), (by first | rfl | (simp; done) | (simp [*]; done)), H', ⟨by have := HK1.out; omega⟩, ⟨by repeat (first | (with_reducible first | exact HB.out | apply below_alloc | apply pw_below_drewN | apply below_drew1) | exact HB.out)⟩⟩
              · replace c8 := Bool.eq_false_iff.mpr c8
                subst c8
                have H1 : (some false) = some r := by rw [if_neg (show ¬ (false = true) by decide)] at H; exact H
                clear H
                have H := H1
                clear H1
                obtain rfl := Option.some.inj H
                try go_wp2
                have n0_ := Aside0.mk (below_drew1 HB.out)
                clear HB
                have HB := n0_
                clear n0_
                have p230 : 0 ≤ (x5_1 : Int) := of_decide_eq_true (by first | (with_reducible assumption) | assumption)
                have q230 : x5_1 < (l0.length : Int) := of_decide_eq_true (by first | (with_reducible assumption) | assumption)
                obtain ⟨ad230, A230_6, c230_6, e230, hx230_0, hx230_1, hx230_2, hx230_3, hx230_4, hx230_5, hx230_6, hl230_6, hi230_6⟩ := at_T38 HR0.out x5_1 p230 q230
                have hw230_6 := hx230_6
                have hw230_5 := hx230_5
                have hw230_4 := hx230_4
                have hw230_3 := hx230_3
                have hw230_2 := hx230_2
                have hw230_1 := hx230_1
                have hw230_0 := hx230_0
                cases e230
                replace hx230_0 := (HB.out.cell (World.block_lt_of_cell? w _ hx230_0)).trans hx230_0
                replace hx230_1 := (HB.out.cell (World.block_lt_of_cell? w _ hx230_1)).trans hx230_1
                replace hx230_2 := (HB.out.cell (World.block_lt_of_cell? w _ hx230_2)).trans hx230_2
                replace hx230_3 := (HB.out.cell (World.block_lt_of_cell? w _ hx230_3)).trans hx230_3
                replace hx230_4 := (HB.out.cell (World.block_lt_of_cell? w _ hx230_4)).trans hx230_4
                replace hx230_5 := (HB.out.cell (World.block_lt_of_cell? w _ hx230_5)).trans hx230_5
                replace hx230_6 := (HB.out.cell (World.block_lt_of_cell? w _ hx230_6)).trans hx230_6
                have HR230_6 := Aside0.mk hi230_6
                have HC230_6 := Aside0.mk hl230_6
                clear hi230_6 hl230_6
                replace p230 := eq_true p230
                replace q230 := eq_true q230
                have p231 : 0 ≤ (x5_1 : Int) := of_decide_eq_true (by first | (with_reducible assumption) | assumption)
                have q231 : x5_1 < (l1.length : Int) := of_decide_eq_true (by first | (with_reducible assumption) | assumption)
                obtain ⟨ad231, A231_6, c231_6, e231, hx231_0, hx231_1, hx231_2, hx231_3, hx231_4, hx231_5, hx231_6, hl231_6, hi231_6⟩ := at_T38 HR1.out x5_1 p231 q231
                have hw231_6 := hx231_6
                have hw231_5 := hx231_5
                have hw231_4 := hx231_4
                have hw231_3 := hx231_3
                have hw231_2 := hx231_2
                have hw231_1 := hx231_1
                have hw231_0 := hx231_0
                cases e231
                replace hx231_0 := (HB.out.cell (World.block_lt_of_cell? w _ hx231_0)).trans hx231_0
                replace hx231_1 := (HB.out.cell (World.block_lt_of_cell? w _ hx231_1)).trans hx231_1
                replace hx231_2 := (HB.out.cell (World.block_lt_of_cell? w _ hx231_2)).trans hx231_2
                replace hx231_3 := (HB.out.cell (World.block_lt_of_cell? w _ hx231_3)).trans hx231_3
                replace hx231_4 := (HB.out.cell (World.block_lt_of_cell? w _ hx231_4)).trans hx231_4
                replace hx231_5 := (HB.out.cell (World.block_lt_of_cell? w _ hx231_5)).trans hx231_5
                replace hx231_6 := (HB.out.cell (World.block_lt_of_cell? w _ hx231_6)).trans hx231_6
                have HR231_6 := Aside0.mk hi231_6
                have HC231_6 := Aside0.mk hl231_6
                clear hi231_6 hl231_6
                replace p231 := eq_true p231
                replace q231 := eq_true q231
                refine start_ (n := 10) (S := fun w' => w'.cell? (ad230.add ((x5_1).toNat * 7)) = some (.int .i64 ((rd_T38 l0 x5_1).f0)) ∧ w'.cell? ⟨(ad230.add ((x5_1).toNat * 7)).block, (ad230.add ((x5_1).toNat * 7)).off + 1, none⟩ = some (.int .i64 ((rd_T38 l0 x5_1).f1)) ∧ w'.cell? ⟨(ad230.add ((x5_1).toNat * 7)).block, (ad230.add ((x5_1).toNat * 7)).off + 2, none⟩ = some (.int .i64 ((rd_T38 l0 x5_1).f2.f0)) ∧ w'.cell? ⟨(ad230.add ((x5_1).toNat * 7)).block, (ad230.add ((x5_1).toNat * 7)).off + 3, none⟩ = some (.string ((rd_T38 l0 x5_1).f2.f1)) ∧ w'.cell? ⟨(ad230.add ((x5_1).toNat * 7)).block, (ad230.add ((x5_1).toNat * 7)).off + 4, none⟩ = some (.int .i64 ((rd_T38 l0 x5_1).f2.f2)) ∧ w'.cell? ⟨(ad230.add ((x5_1).toNat * 7)).block, (ad230.add ((x5_1).toNat * 7)).off + 5, none⟩ = some (.int .i64 ((rd_T38 l0 x5_1).f2.f3)) ∧ w'.cell? ⟨(ad230.add ((x5_1).toNat * 7)).block, (ad230.add ((x5_1).toNat * 7)).off + 6, none⟩ = some (.slice A230_6 ((rd_T38 l0 x5_1).f2.f4).length c230_6) ∧ w'.cell? (ad231.add ((x5_1).toNat * 7)) = some (.int .i64 ((rd_T38 l1 x5_1).f0)) ∧ w'.cell? ⟨(ad231.add ((x5_1).toNat * 7)).block, (ad231.add ((x5_1).toNat * 7)).off + 1, none⟩ = some (.int .i64 ((rd_T38 l1 x5_1).f1)) ∧ w'.cell? ⟨(ad231.add ((x5_1).toNat * 7)).block, (ad231.add ((x5_1).toNat * 7)).off + 2, none⟩ = some (.int .i64 ((rd_T38 l1 x5_1).f2.f0)) ∧ w'.cell? ⟨(ad231.add ((x5_1).toNat * 7)).block, (ad231.add ((x5_1).toNat * 7)).off + 3, none⟩ = some (.string ((rd_T38 l1 x5_1).f2.f1)) ∧ w'.cell? ⟨(ad231.add ((x5_1).toNat * 7)).block, (ad231.add ((x5_1).toNat * 7)).off + 4, none⟩ = some (.int .i64 ((rd_T38 l1 x5_1).f2.f2)) ∧ w'.cell? ⟨(ad231.add ((x5_1).toNat * 7)).block, (ad231.add ((x5_1).toNat * 7)).off + 5, none⟩ = some (.int .i64 ((rd_T38 l1 x5_1).f2.f3)) ∧ w'.cell? ⟨(ad231.add ((x5_1).toNat * 7)).block, (ad231.add ((x5_1).toNat * 7)).off + 6, none⟩ = some (.slice A231_6 ((rd_T38 l1 x5_1).f2.f4).length c231_6)) (ds := []) #[false, false, false, false, false, false, false, false, false, false] (by kernel_rfl) rfl rfl ⟨((HB.out.cell (World.block_lt_of_cell? w _ hw230_0)).trans hw230_0), ((HB.out.cell (World.block_lt_of_cell? w _ hw230_1)).trans hw230_1), ((HB.out.cell (World.block_lt_of_cell? w _ hw230_2)).trans hw230_2), ((HB.out.cell (World.block_lt_of_cell? w _ hw230_3)).trans hw230_3), ((HB.out.cell (World.block_lt_of_cell? w _ hw230_4)).trans hw230_4), ((HB.out.cell (World.block_lt_of_cell? w _ hw230_5)).trans hw230_5), ((HB.out.cell (World.block_lt_of_cell? w _ hw230_6)).trans hw230_6), ((HB.out.cell (World.block_lt_of_cell? w _ hw231_0)).trans hw231_0), ((HB.out.cell (World.block_lt_of_cell? w _ hw231_1)).trans hw231_1), ((HB.out.cell (World.block_lt_of_cell? w _ hw231_2)).trans hw231_2), ((HB.out.cell (World.block_lt_of_cell? w _ hw231_3)).trans hw231_3), ((HB.out.cell (World.block_lt_of_cell? w _ hw231_4)).trans hw231_4), ((HB.out.cell (World.block_lt_of_cell? w _ hw231_5)).trans hw231_5), ((HB.out.cell (World.block_lt_of_cell? w _ hw231_6)).trans hw231_6)⟩ (fun hHeld => ?_); refine with_tabW gimbalref04_SameRow.tab6 gimbalref04_SameRow.bits6 (fun HT_ HW_ => ?_)
                generalize wr.drew = w11 at HB HR230_6 HR231_6 hx230_0 hx230_1 hx230_2 hx230_3 hx230_4 hx230_5 hx230_6 hx231_0 hx231_1 hx231_2 hx231_3 hx231_4 hx231_5 hx231_6 hHeld ⊢
                refine pure_ (i := 0) (N := some 17) (v := ?_) (a' := ?_) #[true, false, false, false, false, false, false, false, false, false] rfl rfl (any_of HT_.out (by kernel_rfl)) (fun _ _ _ h => h) (Or.inl ⟨by rfl, ?_⟩) ?_ ?_
                rotate_left
                · intro w'
                  go_simp
                  with_reducible rfl
                rotate_left
                · simp only [Act.put, List.setIfInBounds_toArray, List.set_cons_zero, List.set_cons_succ, i64_w, i32_w]
                  rfl
                refine pure_ (i := 1) (N := some 18) (v := ?_) (a' := ?_) #[true, true, false, false, false, false, false, false, false, false] rfl rfl (any_of HT_.out (by kernel_rfl)) (fun _ _ _ h => h) (Or.inl ⟨by rfl, ?_⟩) ?_ ?_
                rotate_left
                · intro w'
                  go_simp
                  with_reducible rfl
                rotate_left
                · simp only [Act.put, List.setIfInBounds_toArray, List.set_cons_zero, List.set_cons_succ, i64_w, i32_w]
                  rfl
                refine pure_ (i := 2) (N := some 19) (v := ?_) (a' := ?_) #[true, true, true, false, false, false, false, false, false, false] rfl rfl (any_of HT_.out (by kernel_rfl)) (fun _ _ _ h => h) (Or.inl ⟨by rfl, ?_⟩) ?_ ?_
                rotate_left
                · intro w'
                  go_simp
                  with_reducible rfl
                rotate_left
                · simp only [Act.put, List.setIfInBounds_toArray, List.set_cons_zero, List.set_cons_succ, i64_w, i32_w]
                  rfl
                refine pure_ (i := 4) (N := some 21) (v := ?_) (a' := ?_) #[true, true, true, false, true, false, false, false, false, false] rfl rfl (any_of HT_.out (by kernel_rfl)) (fun _ _ _ h => h) (Or.inl ⟨by rfl, ?_⟩) ?_ ?_
                rotate_left
                · intro w'
                  go_simp
                  with_reducible rfl
                rotate_left
                · simp only [Act.put, List.setIfInBounds_toArray, List.set_cons_zero, List.set_cons_succ, i64_w, i32_w]
                  rfl
                refine pure_ (i := 5) (N := some 22) (v := ?_) (a' := ?_) #[true, true, true, false, true, true, false, false, false, false] rfl rfl (any_of HT_.out (by kernel_rfl)) (fun _ _ _ h => h) (Or.inl ⟨by rfl, ?_⟩) ?_ ?_
                rotate_left
                · intro w'
                  go_simp
                  with_reducible rfl
                rotate_left
                · simp only [Act.put, List.setIfInBounds_toArray, List.set_cons_zero, List.set_cons_succ, i64_w, i32_w]
                  rfl
                refine pure_ (i := 6) (N := some 23) (v := ?_) (a' := ?_) #[true, true, true, false, true, true, true, false, false, false] rfl rfl (any_of HT_.out (by kernel_rfl)) (fun _ _ _ h => h) (Or.inl ⟨by rfl, ?_⟩) ?_ ?_
                rotate_left
                · intro w'
                  go_simp
                  with_reducible rfl
                rotate_left
                · simp only [Act.put, List.setIfInBounds_toArray, List.set_cons_zero, List.set_cons_succ, i64_w, i32_w]
                  rfl
                refine take_ (i := 3) (N := some 20) (v := ?_) (a' := ?_) #[true, true, true, true, true, true, true, false, false, false] rfl rfl (take_ofW HT_.out HW_.out (by kernel_rfl)) (fun _ _ _ h => h) (Or.inl ⟨by rfl, ?_⟩) hHeld ?_ ?_
                rotate_left
                · rintro w' ⟨s0, s1, s2, s3, s4, s5, s6, s7, s8, s9, s10, s11, s12, s13⟩
                  go_simp
                  with_reducible rfl
                rotate_left
                · simp only [Act.put, List.setIfInBounds_toArray, List.set_cons_zero, List.set_cons_succ, i64_w, i32_w]
                  rfl
                refine take_ (i := 7) (N := some 24) (v := ?_) (a' := ?_) #[true, true, true, true, true, true, true, true, false, false] rfl rfl (take_ofW HT_.out HW_.out (by kernel_rfl)) (fun _ _ _ h => h) (Or.inl ⟨by rfl, ?_⟩) hHeld ?_ ?_
                rotate_left
                · rintro w' ⟨s0, s1, s2, s3, s4, s5, s6, s7, s8, s9, s10, s11, s12, s13⟩
                  go_simp
                  with_reducible rfl
                rotate_left
                · simp only [Act.put, List.setIfInBounds_toArray, List.set_cons_zero, List.set_cons_succ, i64_w, i32_w]
                  rfl
                refine one_ (i := 8) (N := some 25) #[true, true, true, true, true, true, true, true, true, false] rfl rfl (one_of HT_.out (by kernel_rfl)) (by decide) (fun K hK => ?_)
                refine goes_ Tryd.func50 (by kernel_rfl) rfl #[.agg #[.int .i64 ((rd_T38 l0 x5_1).f0), .int .i64 ((rd_T38 l0 x5_1).f1), .int .i64 ((rd_T38 l0 x5_1).f2.f0), .string ((rd_T38 l0 x5_1).f2.f1), .int .i64 ((rd_T38 l0 x5_1).f2.f2), .int .i64 ((rd_T38 l0 x5_1).f2.f3), .slice A230_6 ((rd_T38 l0 x5_1).f2.f4).length c230_6], .agg #[.int .i64 ((rd_T38 l1 x5_1).f0), .int .i64 ((rd_T38 l1 x5_1).f1), .int .i64 ((rd_T38 l1 x5_1).f2.f0), .string ((rd_T38 l1 x5_1).f2.f1), .int .i64 ((rd_T38 l1 x5_1).f2.f2), .int .i64 ((rd_T38 l1 x5_1).f2.f3), .slice A231_6 ((rd_T38 l1 x5_1).f2.f4).length c231_6]] (by rfl) rfl rfl (by (try simp only [List.map_toArray, List.map_cons, List.map_nil]); first | done | rfl | (simp only [List.length_drop, List.length_take]; rfl)) ?_
                with_reducible refine (gimbalref04_Same.calls k1 ((rd_T38 l0 x5_1).f0) ((rd_T38 l0 x5_1).f1) ((rd_T38 l0 x5_1).f2.f0) ((rd_T38 l0 x5_1).f2.f1) ((rd_T38 l0 x5_1).f2.f2) ((rd_T38 l0 x5_1).f2.f3) _ _ ((rd_T38 l0 x5_1).f2.f4) ((rd_T38 l1 x5_1).f0) ((rd_T38 l1 x5_1).f1) ((rd_T38 l1 x5_1).f2.f0) ((rd_T38 l1 x5_1).f2.f1) ((rd_T38 l1 x5_1).f2.f2) ((rd_T38 l1 x5_1).f2.f3) _ _ ((rd_T38 l1 x5_1).f2.f4) false _ ?side1 ?side2 ?side3 ?side4 A7.out).mono ?_
                (case side1 => repeat (first | exact (Kd.C_below HR230_6.out HB.out) | (with_reducible refine Kd.C_alloc ?_ _) | (with_reducible refine Kd.C_drewN ?_ _) | (with_reducible refine Kd.C_drew ?_)))
                (case side2 => exact HC230_6.out)
                (case side3 => repeat (first | exact (Kd.C_below HR231_6.out HB.out) | (with_reducible refine Kd.C_alloc ?_ _) | (with_reducible refine Kd.C_drewN ?_ _) | (with_reducible refine Kd.C_drew ?_)))
                (case side4 => exact HC231_6.out)
                rintro e w12 ⟨rfl, hb⟩
                refine ⟨_, rfl, ?_⟩
                have n0_ := Aside0.mk (below_step (by repeat (first | (with_reducible first | exact HB.out | apply below_alloc | apply pw_below_drewN | apply below_drew1) | exact HB.out)) hb)
                clear HB
                have HB := n0_
                clear n0_
                (try clear hb)
                (try clear hb2)
                (try clear hk)
                (try clear hi)
                refine hK.out _ _ ⟨((HB.out.cell (World.block_lt_of_cell? w _ hw230_0)).trans hw230_0), ((HB.out.cell (World.block_lt_of_cell? w _ hw230_1)).trans hw230_1), ((HB.out.cell (World.block_lt_of_cell? w _ hw230_2)).trans hw230_2), ((HB.out.cell (World.block_lt_of_cell? w _ hw230_3)).trans hw230_3), ((HB.out.cell (World.block_lt_of_cell? w _ hw230_4)).trans hw230_4), ((HB.out.cell (World.block_lt_of_cell? w _ hw230_5)).trans hw230_5), ((HB.out.cell (World.block_lt_of_cell? w _ hw230_6)).trans hw230_6), ((HB.out.cell (World.block_lt_of_cell? w _ hw231_0)).trans hw231_0), ((HB.out.cell (World.block_lt_of_cell? w _ hw231_1)).trans hw231_1), ((HB.out.cell (World.block_lt_of_cell? w _ hw231_2)).trans hw231_2), ((HB.out.cell (World.block_lt_of_cell? w _ hw231_3)).trans hw231_3), ((HB.out.cell (World.block_lt_of_cell? w _ hw231_4)).trans hw231_4), ((HB.out.cell (World.block_lt_of_cell? w _ hw231_5)).trans hw231_5), ((HB.out.cell (World.block_lt_of_cell? w _ hw231_6)).trans hw231_6)⟩ (fun hHeld => ?_)
                clear hK K
                refine norm_ (a' := ?_) ?_ ?_
                rotate_left
                · show Act.put _ (some 25) _ = _
                  simp only [Act.put, List.setIfInBounds_toArray, List.set_cons_zero, List.set_cons_succ, i64_w, i32_w]
                  rfl
                refine pure_ (i := 9) (N := some 26) (v := ?_) (a' := ?_) #[true, true, true, true, true, true, true, true, true, true] rfl rfl (any_of HT_.out (by kernel_rfl)) (fun _ _ _ h => h) (Or.inl ⟨by rfl, ?_⟩) ?_ ?_
                rotate_left
                · intro w'
                  go_simp
                  with_reducible rfl
                rotate_left
                · simp only [Act.put, List.setIfInBounds_toArray, List.set_cons_zero, List.set_cons_succ, i64_w, i32_w]
                  rfl
                refine done_ (done_of HT_.out (by kernel_rfl)) ?_
                try go_wp2
                go_ret
                exact ⟨by first | rfl | (simp [errW_none, errW_some] <;> rfl) | (simp [*, errW_none, errW_some] <;> rfl), by repeat (first | (with_reducible first | exact HB.out | apply below_alloc | apply pw_below_drewN | apply below_drew1) | exact HB.out)⟩
            · rw [if_neg c6] at H
              exact absurd H (by simp)
          · rw [if_neg c5] at H
            exact absurd H (by simp)
        · rw [if_neg c4] at H
          have c4b0 : decide (x5_1 < (l0.length : Int)) = false := decide_eq_false c4
          clear c4
          obtain rfl := Option.some.inj H
          go_wp2
          go_ret
          exact ⟨by first | rfl | (simp [errW_none, errW_some] <;> rfl) | (simp [*, errW_none, errW_some] <;> rfl), by repeat (first | (with_reducible first | exact HB.out | apply below_alloc | apply pw_below_drewN | apply below_drew1) | exact HB.out)⟩
  · rw [if_neg c3] at H
    have c3b0 : ((l0.length : Int) == (l1.length : Int)) = false := beq_eq_false_iff_ne.mpr c3
    have c3b1 : ((l0.length : Int) != (l1.length : Int)) = true := bne_iff_ne.mpr c3
    have c3b2 : (l0.length == l1.length) = false := by first | simpa using c3 | (simp at c3 ⊢; omega)
    obtain rfl := Option.some.inj H
    go_enter Tryd.func51, Tryd.ntmps51
    go_wp2
    go_ret
    exact ⟨by first | rfl | (simp [errW_none, errW_some] <;> rfl) | (simp [*, errW_none, errW_some] <;> rfl), by repeat (first | (with_reducible first | exact HB.out | apply below_alloc | apply pw_below_drewN | apply below_drew1) | exact HB.out)⟩
def gimbalref14_Same.f (k : Nat) (a0_0 : Int) (a0_1 : Int) (a0_2 : Int) (a0_3 : Int) (a0_4 : Int) (a0_5 : Int) (a0_6 : Int) (a0_7 : ByteArray) (a0_8 : Int) (a0_9 : Int) (l0_10 : List (S118)) (l0_11 : List (S38)) (a1_0 : Int) (a1_1 : Int) (a1_2 : Int) (a1_3 : Int) (a1_4 : Int) (a1_5 : Int) (a1_6 : Int) (a1_7 : ByteArray) (a1_8 : Int) (a1_9 : Int) (l1_10 : List (S118)) (l1_11 : List (S38)) : Option (Bool) := if a0_0 = a1_0 then (if a0_1 = a1_1 then (if a0_2 = a1_2 then (if a0_3 = a1_3 then ((gimbalref04_Same.f k a0_4 a0_5 a0_6 a0_7 a0_8 a0_9 l0_10 a1_4 a1_5 a1_6 a1_7 a1_8 a1_9 l1_10).bind fun t235 => (if t235 = true then ((gimbalref04_SameRow.f k l0_11 l1_11).bind fun t236 => (some t236)) else (some false))) else (some false)) else (some false)) else (some false)) else (some false)
set_option maxHeartbeats 8000000 in
set_option maxRecDepth 100000 in
theorem gimbalref14_Same.calls (k : Nat) (a0_0 : Int) (a0_1 : Int) (a0_2 : Int) (a0_3 : Int) (a0_4 : Int) (a0_5 : Int) (a0_6 : Int) (a0_7 : ByteArray) (a0_8 : Int) (a0_9 : Int) (A0_10 : Option Addr) (c0_10 : Nat) (l0_10 : List (S118)) (A0_11 : Option Addr) (c0_11 : Nat) (l0_11 : List (S38)) (a1_0 : Int) (a1_1 : Int) (a1_2 : Int) (a1_3 : Int) (a1_4 : Int) (a1_5 : Int) (a1_6 : Int) (a1_7 : ByteArray) (a1_8 : Int) (a1_9 : Int) (A1_10 : Option Addr) (c1_10 : Nat) (l1_10 : List (S118)) (A1_11 : Option Addr) (c1_11 : Nat) (l1_11 : List (S38)) (r : Bool) (w : World) (hr0_10 : Kd.C k118 w A0_10 l0_10.length l0_10) (hc0_10 : l0_10.length ≤ c0_10) (hr0_11 : Kd.C k38 w A0_11 l0_11.length l0_11) (hc0_11 : l0_11.length ≤ c0_11) (hr1_10 : Kd.C k118 w A1_10 l1_10.length l1_10) (hc1_10 : l1_10.length ≤ c1_10) (hr1_11 : Kd.C k38 w A1_11 l1_11.length l1_11) (hc1_11 : l1_11.length ≤ c1_11) (h : gimbalref14_Same.f k a0_0 a0_1 a0_2 a0_3 a0_4 a0_5 a0_6 a0_7 a0_8 a0_9 l0_10 l0_11 a1_0 a1_1 a1_2 a1_3 a1_4 a1_5 a1_6 a1_7 a1_8 a1_9 l1_10 l1_11 = some r) :
    Calls Tryd.prog 20 #[.agg #[.int .i64 a0_0, .int .i64 a0_1, .int .i64 a0_2, .int .i64 a0_3, .int .i64 a0_4, .int .i64 a0_5, .int .i64 a0_6, .string a0_7, .int .i64 a0_8, .int .i64 a0_9, .slice A0_10 l0_10.length c0_10, .slice A0_11 l0_11.length c0_11], .agg #[.int .i64 a1_0, .int .i64 a1_1, .int .i64 a1_2, .int .i64 a1_3, .int .i64 a1_4, .int .i64 a1_5, .int .i64 a1_6, .string a1_7, .int .i64 a1_8, .int .i64 a1_9, .slice A1_10 l1_10.length c1_10, .slice A1_11 l1_11.length c1_11]] w fun e w' => e = .returned (.bool r) ∧ Below w.heap.size w w' := by
  have hu41 := Tryd.underlying41
  have hu38 := Tryd.underlying38
  have HR0_10 := Aside0.mk hr0_10
  have HC0_10 := Aside0.mk hc0_10
  clear hr0_10 hc0_10
  have HR0_11 := Aside0.mk hr0_11
  have HC0_11 := Aside0.mk hc0_11
  clear hr0_11 hc0_11
  have HR1_10 := Aside0.mk hr1_10
  have HC1_10 := Aside0.mk hc1_10
  clear hr1_10 hc1_10
  have HR1_11 := Aside0.mk hr1_11
  have HC1_11 := Aside0.mk hc1_11
  clear hr1_11 hc1_11
  have HB := Aside0.mk (Below.refl w.heap.size w)
  have H : (if a0_0 = a1_0 then (if a0_1 = a1_1 then (if a0_2 = a1_2 then (if a0_3 = a1_3 then ((gimbalref04_Same.f k a0_4 a0_5 a0_6 a0_7 a0_8 a0_9 l0_10 a1_4 a1_5 a1_6 a1_7 a1_8 a1_9 l1_10).bind fun t235 => (if t235 = true then ((gimbalref04_SameRow.f k l0_11 l1_11).bind fun t236 => (some t236)) else (some false))) else (some false)) else (some false)) else (some false)) else (some false)) = some r := h
  clear h
  by_cases c3 : a0_0 = a1_0
  · rw [if_pos c3] at H
    have c3b0 : (a0_0 == a1_0) = true := beq_iff_eq.mpr c3
    have c3b1 : (a0_0 != a1_0) = false := bne_eq_false_iff_eq.mpr c3
    clear c3
    by_cases c4 : a0_1 = a1_1
    · rw [if_pos c4] at H
      have c4b0 : (a0_1 == a1_1) = true := beq_iff_eq.mpr c4
      have c4b1 : (a0_1 != a1_1) = false := bne_eq_false_iff_eq.mpr c4
      clear c4
      by_cases c5 : a0_2 = a1_2
      · rw [if_pos c5] at H
        have c5b0 : (a0_2 == a1_2) = true := beq_iff_eq.mpr c5
        have c5b1 : (a0_2 != a1_2) = false := bne_eq_false_iff_eq.mpr c5
        clear c5
        by_cases c6 : a0_3 = a1_3
        · rw [if_pos c6] at H
          have c6b0 : (a0_3 == a1_3) = true := beq_iff_eq.mpr c6
          have c6b1 : (a0_3 != a1_3) = false := bne_eq_false_iff_eq.mpr c6
          clear c6
          replace H := Option.bind_eq_some_iff.mp H
          obtain ⟨t235, A70, H⟩ := H
          replace H : (if t235 = true then ((gimbalref04_SameRow.f k l0_11 l1_11).bind fun t236 => (some t236)) else (some false)) = some r := H
          have A7 := Aside0.mk A70
          clear A70
          by_cases c8 : t235 = true
          · subst c8
            have H1 : ((gimbalref04_SameRow.f k l0_11 l1_11).bind fun t236 => (some t236)) = some r := by rw [if_pos rfl] at H; exact H
            clear H
            have H := H1
            clear H1
            replace H := Option.bind_eq_some_iff.mp H
            obtain ⟨t236, A90, H⟩ := H
            replace H : (some t236) = some r := H
            have A9 := Aside0.mk A90
            clear A90
            obtain rfl := Option.some.inj H
            go_enter Tryd.func20, Tryd.ntmps20
            go_wp2_with (first | ((with_reducible refine gate_dst (N := 2) rfl ?_); refine box_event ?hg (N := 2) ?hd (cs := #[.int .i64 a0_0, .int .i64 a0_1, .int .i64 a0_2, .int .i64 a0_3, .int .i64 a0_4, .int .i64 a0_5, .int .i64 a0_6, .string a0_7, .int .i64 a0_8, .int .i64 a0_9, .slice A0_10 l0_10.length c0_10, .slice A0_11 l0_11.length c0_11]) (t := 41) ?hr ?_; (case hd => rfl); (case hg => rfl); (case hr => first | (go_simp; done) | (go_simp; rfl)); intro gb233 hg w10 hbox hb; have n0_ := Aside0.mk (below_step (by repeat (first | (with_reducible first | exact HB.out | apply below_alloc | apply pw_below_drewN | apply below_drew1) | exact HB.out)) hb); have n1_ := Aside0.mk (hbox); have n2_ := Aside0.mk ((by rw [hg]; exact (below_size (by repeat (first | (with_reducible first | exact HB.out | apply below_alloc | apply pw_below_drewN | apply below_drew1) | exact HB.out))) : w.heap.size ≤ gb233)); have n3_ := Aside0.mk ((by rw [hg]; exact (below_size (by repeat (first | (with_reducible first | exact HB.out | apply below_alloc | apply pw_below_drewN | apply below_drew1) | exact HB.out))) : w.heap.size ≤ gb233)); clear HB; have HB := n0_; have BK233 := n1_; have GW233 := n2_; have GE233 := n3_; clear n0_ n1_ n2_ n3_; clear hb hbox hg) | ((with_reducible refine gate_dst (N := 3) rfl ?_); refine box_event ?hg (N := 3) ?hd (cs := #[.int .i64 a1_0, .int .i64 a1_1, .int .i64 a1_2, .int .i64 a1_3, .int .i64 a1_4, .int .i64 a1_5, .int .i64 a1_6, .string a1_7, .int .i64 a1_8, .int .i64 a1_9, .slice A1_10 l1_10.length c1_10, .slice A1_11 l1_11.length c1_11]) (t := 41) ?hr ?_; (case hd => rfl); (case hg => rfl); (case hr => first | (go_simp; done) | (go_simp; rfl)); intro gb234 hg w11 hbox hb; have n0_ := Aside0.mk (blk_below (g := gb233) (o := .cells #[.int .i64 a0_0, .int .i64 a0_1, .int .i64 a0_2, .int .i64 a0_3, .int .i64 a0_4, .int .i64 a0_5, .int .i64 a0_6, .string a0_7, .int .i64 a0_8, .int .i64 a0_9, .slice A0_10 l0_10.length c0_10, .slice A0_11 l0_11.length c0_11] 41 (0, 0)) (by (with_reducible repeat (first | refine blk_drewN ?_ _ | refine blk_drew ?_ | refine blk_alloc ?_ _)); exact BK233.out) hb); have n1_ := Aside0.mk (below_step (by repeat (first | (with_reducible first | exact HB.out | apply below_alloc | apply pw_below_drewN | apply below_drew1 | refine below_set ?_ GE233.out) | exact HB.out)) hb); have n2_ := Aside0.mk (hbox); have n3_ := Aside0.mk ((by rw [hg]; exact (below_size (by repeat (first | (with_reducible first | exact HB.out | apply below_alloc | apply pw_below_drewN | apply below_drew1 | refine below_set ?_ GE233.out) | exact HB.out))) : w.heap.size ≤ gb234)); have n4_ := Aside0.mk ((by rw [hg]; exact (below_size (by repeat (first | (with_reducible first | exact HB.out | apply below_alloc | apply pw_below_drewN | apply below_drew1 | refine below_set ?_ GE233.out) | exact HB.out))) : w.heap.size ≤ gb234)); have n5_ := Aside0.mk ((by rw [hg]; exact Nat.ne_of_lt (blk_lt (g := gb233) (o := .cells #[.int .i64 a0_0, .int .i64 a0_1, .int .i64 a0_2, .int .i64 a0_3, .int .i64 a0_4, .int .i64 a0_5, .int .i64 a0_6, .string a0_7, .int .i64 a0_8, .int .i64 a0_9, .slice A0_10 l0_10.length c0_10, .slice A0_11 l0_11.length c0_11] 41 (0, 0)) (by (with_reducible repeat (first | refine blk_drewN ?_ _ | refine blk_drew ?_ | refine blk_alloc ?_ _)); exact BK233.out)) : gb233 ≠ gb234)); have n6_ := Aside0.mk ((by rw [hg]; exact Nat.ne_of_gt (blk_lt (g := gb233) (o := .cells #[.int .i64 a0_0, .int .i64 a0_1, .int .i64 a0_2, .int .i64 a0_3, .int .i64 a0_4, .int .i64 a0_5, .int .i64 a0_6, .string a0_7, .int .i64 a0_8, .int .i64 a0_9, .slice A0_10 l0_10.length c0_10, .slice A0_11 l0_11.length c0_11] 41 (0, 0)) (by (with_reducible repeat (first | refine blk_drewN ?_ _ | refine blk_drew ?_ | refine blk_alloc ?_ _)); exact BK233.out)) : gb234 ≠ gb233)); clear BK233; clear HB; have BK233 := n0_; have HB := n1_; have BK234 := n2_; have GW234 := n3_; have GE234 := n4_; have NB233_234 := n5_; have NB234_233 := n6_; clear n0_ n1_ n2_ n3_ n4_ n5_ n6_; clear hb hbox hg; have hnb12 := NB233_234.out; have hnc12 := NB234_233.out; have hcz13_0 : w11.cell? ⟨gb233, 0, none⟩ = some (.int .i64 a0_0) := (blk_cell BK233.out 0).trans rfl; have hcz13_1 : w11.cell? ⟨gb233, 1, none⟩ = some (.int .i64 a0_1) := (blk_cell BK233.out 1).trans rfl; have hcz13_2 : w11.cell? ⟨gb233, 2, none⟩ = some (.int .i64 a0_2) := (blk_cell BK233.out 2).trans rfl; have hcz13_3 : w11.cell? ⟨gb233, 3, none⟩ = some (.int .i64 a0_3) := (blk_cell BK233.out 3).trans rfl; have hcz13_4 : w11.cell? ⟨gb233, 4, none⟩ = some (.int .i64 a0_4) := (blk_cell BK233.out 4).trans rfl; have hcz13_5 : w11.cell? ⟨gb233, 5, none⟩ = some (.int .i64 a0_5) := (blk_cell BK233.out 5).trans rfl; have hcz13_6 : w11.cell? ⟨gb233, 6, none⟩ = some (.int .i64 a0_6) := (blk_cell BK233.out 6).trans rfl; have hcz13_7 : w11.cell? ⟨gb233, 7, none⟩ = some (.string a0_7) := (blk_cell BK233.out 7).trans rfl; have hcz13_8 : w11.cell? ⟨gb233, 8, none⟩ = some (.int .i64 a0_8) := (blk_cell BK233.out 8).trans rfl; have hcz13_9 : w11.cell? ⟨gb233, 9, none⟩ = some (.int .i64 a0_9) := (blk_cell BK233.out 9).trans rfl; have hcz13_10 : w11.cell? ⟨gb233, 10, none⟩ = some (.slice A0_10 l0_10.length c0_10) := (blk_cell BK233.out 10).trans rfl; have hcz13_11 : w11.cell? ⟨gb233, 11, none⟩ = some (.slice A0_11 l0_11.length c0_11) := (blk_cell BK233.out 11).trans rfl; have hfz13_0 := blk_frozen BK233.out 0; have hfz13_1 := blk_frozen BK233.out 1; have hfz13_2 := blk_frozen BK233.out 2; have hfz13_3 := blk_frozen BK233.out 3; have hfz13_4 := blk_frozen BK233.out 4; have hfz13_5 := blk_frozen BK233.out 5; have hfz13_6 := blk_frozen BK233.out 6; have hfz13_7 := blk_frozen BK233.out 7; have hfz13_8 := blk_frozen BK233.out 8; have hfz13_9 := blk_frozen BK233.out 9; have hfz13_10 := blk_frozen BK233.out 10; have hfz13_11 := blk_frozen BK233.out 11; have hcz14_0 : w11.cell? ⟨gb234, 0, none⟩ = some (.int .i64 a1_0) := (blk_cell BK234.out 0).trans rfl; have hcz14_1 : w11.cell? ⟨gb234, 1, none⟩ = some (.int .i64 a1_1) := (blk_cell BK234.out 1).trans rfl; have hcz14_2 : w11.cell? ⟨gb234, 2, none⟩ = some (.int .i64 a1_2) := (blk_cell BK234.out 2).trans rfl; have hcz14_3 : w11.cell? ⟨gb234, 3, none⟩ = some (.int .i64 a1_3) := (blk_cell BK234.out 3).trans rfl; have hcz14_4 : w11.cell? ⟨gb234, 4, none⟩ = some (.int .i64 a1_4) := (blk_cell BK234.out 4).trans rfl; have hcz14_5 : w11.cell? ⟨gb234, 5, none⟩ = some (.int .i64 a1_5) := (blk_cell BK234.out 5).trans rfl; have hcz14_6 : w11.cell? ⟨gb234, 6, none⟩ = some (.int .i64 a1_6) := (blk_cell BK234.out 6).trans rfl; have hcz14_7 : w11.cell? ⟨gb234, 7, none⟩ = some (.string a1_7) := (blk_cell BK234.out 7).trans rfl; have hcz14_8 : w11.cell? ⟨gb234, 8, none⟩ = some (.int .i64 a1_8) := (blk_cell BK234.out 8).trans rfl; have hcz14_9 : w11.cell? ⟨gb234, 9, none⟩ = some (.int .i64 a1_9) := (blk_cell BK234.out 9).trans rfl; have hcz14_10 : w11.cell? ⟨gb234, 10, none⟩ = some (.slice A1_10 l1_10.length c1_10) := (blk_cell BK234.out 10).trans rfl; have hcz14_11 : w11.cell? ⟨gb234, 11, none⟩ = some (.slice A1_11 l1_11.length c1_11) := (blk_cell BK234.out 11).trans rfl; have hfz14_0 := blk_frozen BK234.out 0; have hfz14_1 := blk_frozen BK234.out 1; have hfz14_2 := blk_frozen BK234.out 2; have hfz14_3 := blk_frozen BK234.out 3; have hfz14_4 := blk_frozen BK234.out 4; have hfz14_5 := blk_frozen BK234.out 5; have hfz14_6 := blk_frozen BK234.out 6; have hfz14_7 := blk_frozen BK234.out 7; have hfz14_8 := blk_frozen BK234.out 8; have hfz14_9 := blk_frozen BK234.out 9; have hfz14_10 := blk_frozen BK234.out 10; have hfz14_11 := blk_frozen BK234.out 11) | (go_at_call 50; (with_reducible refine (gimbalref04_Same.calls k a0_4 a0_5 a0_6 a0_7 a0_8 a0_9 _ _ l0_10 a1_4 a1_5 a1_6 a1_7 a1_8 a1_9 _ _ l1_10 true _ ?side1 ?side2 ?side3 ?side4 A7.out).mono ?_); (case side1 => repeat (first | exact (Kd.C_below HR0_10.out HB.out) | (with_reducible refine Kd.C_alloc ?_ _) | (with_reducible refine Kd.C_drewN ?_ _) | (with_reducible refine Kd.C_drew ?_))); (case side2 => exact HC0_10.out); (case side3 => repeat (first | exact (Kd.C_below HR1_10.out HB.out) | (with_reducible refine Kd.C_alloc ?_ _) | (with_reducible refine Kd.C_drewN ?_ _) | (with_reducible refine Kd.C_drew ?_))); (case side4 => exact HC1_10.out); rintro e w15 ⟨rfl, hb⟩; have n0_ := Aside0.mk (blk_below (g := gb233) (o := .cells #[.int .i64 a0_0, .int .i64 a0_1, .int .i64 a0_2, .int .i64 a0_3, .int .i64 a0_4, .int .i64 a0_5, .int .i64 a0_6, .string a0_7, .int .i64 a0_8, .int .i64 a0_9, .slice A0_10 l0_10.length c0_10, .slice A0_11 l0_11.length c0_11] 41 (0, 0)) (by (with_reducible repeat (first | refine blk_drewN ?_ _ | refine blk_drew ?_ | refine blk_alloc ?_ _)); exact BK233.out) hb); have n1_ := Aside0.mk (blk_below (g := gb234) (o := .cells #[.int .i64 a1_0, .int .i64 a1_1, .int .i64 a1_2, .int .i64 a1_3, .int .i64 a1_4, .int .i64 a1_5, .int .i64 a1_6, .string a1_7, .int .i64 a1_8, .int .i64 a1_9, .slice A1_10 l1_10.length c1_10, .slice A1_11 l1_11.length c1_11] 41 (0, 0)) (by (with_reducible repeat (first | refine blk_drewN ?_ _ | refine blk_drew ?_ | refine blk_alloc ?_ _)); exact BK234.out) hb); have n2_ := Aside0.mk (below_step (by repeat (first | (with_reducible first | exact HB.out | apply below_alloc | apply pw_below_drewN | apply below_drew1 | refine below_set ?_ GE233.out | refine below_set ?_ GE234.out) | exact HB.out)) hb); clear BK233; clear BK234; clear HB; have BK233 := n0_; have BK234 := n1_; have HB := n2_; clear n0_ n1_ n2_; (try clear hb); (try clear hb2); (try clear hk); (try clear hi); have hcz16_0 : w15.cell? ⟨gb233, 0, none⟩ = some (.int .i64 a0_0) := (blk_cell BK233.out 0).trans rfl; have hcz16_1 : w15.cell? ⟨gb233, 1, none⟩ = some (.int .i64 a0_1) := (blk_cell BK233.out 1).trans rfl; have hcz16_2 : w15.cell? ⟨gb233, 2, none⟩ = some (.int .i64 a0_2) := (blk_cell BK233.out 2).trans rfl; have hcz16_3 : w15.cell? ⟨gb233, 3, none⟩ = some (.int .i64 a0_3) := (blk_cell BK233.out 3).trans rfl; have hcz16_4 : w15.cell? ⟨gb233, 4, none⟩ = some (.int .i64 a0_4) := (blk_cell BK233.out 4).trans rfl; have hcz16_5 : w15.cell? ⟨gb233, 5, none⟩ = some (.int .i64 a0_5) := (blk_cell BK233.out 5).trans rfl; have hcz16_6 : w15.cell? ⟨gb233, 6, none⟩ = some (.int .i64 a0_6) := (blk_cell BK233.out 6).trans rfl; have hcz16_7 : w15.cell? ⟨gb233, 7, none⟩ = some (.string a0_7) := (blk_cell BK233.out 7).trans rfl; have hcz16_8 : w15.cell? ⟨gb233, 8, none⟩ = some (.int .i64 a0_8) := (blk_cell BK233.out 8).trans rfl; have hcz16_9 : w15.cell? ⟨gb233, 9, none⟩ = some (.int .i64 a0_9) := (blk_cell BK233.out 9).trans rfl; have hcz16_10 : w15.cell? ⟨gb233, 10, none⟩ = some (.slice A0_10 l0_10.length c0_10) := (blk_cell BK233.out 10).trans rfl; have hcz16_11 : w15.cell? ⟨gb233, 11, none⟩ = some (.slice A0_11 l0_11.length c0_11) := (blk_cell BK233.out 11).trans rfl; have hfz16_0 := blk_frozen BK233.out 0; have hfz16_1 := blk_frozen BK233.out 1; have hfz16_2 := blk_frozen BK233.out 2; have hfz16_3 := blk_frozen BK233.out 3; have hfz16_4 := blk_frozen BK233.out 4; have hfz16_5 := blk_frozen BK233.out 5; have hfz16_6 := blk_frozen BK233.out 6; have hfz16_7 := blk_frozen BK233.out 7; have hfz16_8 := blk_frozen BK233.out 8; have hfz16_9 := blk_frozen BK233.out 9; have hfz16_10 := blk_frozen BK233.out 10; have hfz16_11 := blk_frozen BK233.out 11; have hcz17_0 : w15.cell? ⟨gb234, 0, none⟩ = some (.int .i64 a1_0) := (blk_cell BK234.out 0).trans rfl; have hcz17_1 : w15.cell? ⟨gb234, 1, none⟩ = some (.int .i64 a1_1) := (blk_cell BK234.out 1).trans rfl; have hcz17_2 : w15.cell? ⟨gb234, 2, none⟩ = some (.int .i64 a1_2) := (blk_cell BK234.out 2).trans rfl; have hcz17_3 : w15.cell? ⟨gb234, 3, none⟩ = some (.int .i64 a1_3) := (blk_cell BK234.out 3).trans rfl; have hcz17_4 : w15.cell? ⟨gb234, 4, none⟩ = some (.int .i64 a1_4) := (blk_cell BK234.out 4).trans rfl; have hcz17_5 : w15.cell? ⟨gb234, 5, none⟩ = some (.int .i64 a1_5) := (blk_cell BK234.out 5).trans rfl; have hcz17_6 : w15.cell? ⟨gb234, 6, none⟩ = some (.int .i64 a1_6) := (blk_cell BK234.out 6).trans rfl; have hcz17_7 : w15.cell? ⟨gb234, 7, none⟩ = some (.string a1_7) := (blk_cell BK234.out 7).trans rfl; have hcz17_8 : w15.cell? ⟨gb234, 8, none⟩ = some (.int .i64 a1_8) := (blk_cell BK234.out 8).trans rfl; have hcz17_9 : w15.cell? ⟨gb234, 9, none⟩ = some (.int .i64 a1_9) := (blk_cell BK234.out 9).trans rfl; have hcz17_10 : w15.cell? ⟨gb234, 10, none⟩ = some (.slice A1_10 l1_10.length c1_10) := (blk_cell BK234.out 10).trans rfl; have hcz17_11 : w15.cell? ⟨gb234, 11, none⟩ = some (.slice A1_11 l1_11.length c1_11) := (blk_cell BK234.out 11).trans rfl; have hfz17_0 := blk_frozen BK234.out 0; have hfz17_1 := blk_frozen BK234.out 1; have hfz17_2 := blk_frozen BK234.out 2; have hfz17_3 := blk_frozen BK234.out 3; have hfz17_4 := blk_frozen BK234.out 4; have hfz17_5 := blk_frozen BK234.out 5; have hfz17_6 := blk_frozen BK234.out 6; have hfz17_7 := blk_frozen BK234.out 7; have hfz17_8 := blk_frozen BK234.out 8; have hfz17_9 := blk_frozen BK234.out 9; have hfz17_10 := blk_frozen BK234.out 10; have hfz17_11 := blk_frozen BK234.out 11) | (go_at_call 51; (with_reducible refine (gimbalref04_SameRow.calls k _ _ l0_11 _ _ l1_11 t236 _ ?side1 ?side2 ?side3 ?side4 A9.out).mono ?_); (case side1 => repeat (first | exact (Kd.C_below HR0_11.out HB.out) | (with_reducible refine Kd.C_alloc ?_ _) | (with_reducible refine Kd.C_drewN ?_ _) | (with_reducible refine Kd.C_drew ?_))); (case side2 => exact HC0_11.out); (case side3 => repeat (first | exact (Kd.C_below HR1_11.out HB.out) | (with_reducible refine Kd.C_alloc ?_ _) | (with_reducible refine Kd.C_drewN ?_ _) | (with_reducible refine Kd.C_drew ?_))); (case side4 => exact HC1_11.out); rintro e w18 ⟨rfl, hb⟩; have n0_ := Aside0.mk (blk_below (g := gb233) (o := .cells #[.int .i64 a0_0, .int .i64 a0_1, .int .i64 a0_2, .int .i64 a0_3, .int .i64 a0_4, .int .i64 a0_5, .int .i64 a0_6, .string a0_7, .int .i64 a0_8, .int .i64 a0_9, .slice A0_10 l0_10.length c0_10, .slice A0_11 l0_11.length c0_11] 41 (0, 0)) (by (with_reducible repeat (first | refine blk_drewN ?_ _ | refine blk_drew ?_ | refine blk_alloc ?_ _)); exact BK233.out) hb); have n1_ := Aside0.mk (blk_below (g := gb234) (o := .cells #[.int .i64 a1_0, .int .i64 a1_1, .int .i64 a1_2, .int .i64 a1_3, .int .i64 a1_4, .int .i64 a1_5, .int .i64 a1_6, .string a1_7, .int .i64 a1_8, .int .i64 a1_9, .slice A1_10 l1_10.length c1_10, .slice A1_11 l1_11.length c1_11] 41 (0, 0)) (by (with_reducible repeat (first | refine blk_drewN ?_ _ | refine blk_drew ?_ | refine blk_alloc ?_ _)); exact BK234.out) hb); have n2_ := Aside0.mk (below_step (by repeat (first | (with_reducible first | exact HB.out | apply below_alloc | apply pw_below_drewN | apply below_drew1 | refine below_set ?_ GE233.out | refine below_set ?_ GE234.out) | exact HB.out)) hb); clear BK233; clear BK234; clear HB; have BK233 := n0_; have BK234 := n1_; have HB := n2_; clear n0_ n1_ n2_; (try clear hb); (try clear hb2); (try clear hk); (try clear hi)))
            go_ret
            exact ⟨by first | rfl | (simp [errW_none, errW_some] <;> rfl) | (simp [*, errW_none, errW_some] <;> rfl), by repeat (first | (with_reducible first | exact HB.out | apply below_alloc | apply pw_below_drewN | apply below_drew1 | refine below_set ?_ GE233.out | refine below_set ?_ GE234.out) | exact HB.out)⟩
          · replace c8 := Bool.eq_false_iff.mpr c8
            subst c8
            have H1 : (some false) = some r := by rw [if_neg (show ¬ (false = true) by decide)] at H; exact H
            clear H
            have H := H1
            clear H1
            obtain rfl := Option.some.inj H
            go_enter Tryd.func20, Tryd.ntmps20
            go_wp2_with (first | ((with_reducible refine gate_dst (N := 2) rfl ?_); refine box_event ?hg (N := 2) ?hd (cs := #[.int .i64 a0_0, .int .i64 a0_1, .int .i64 a0_2, .int .i64 a0_3, .int .i64 a0_4, .int .i64 a0_5, .int .i64 a0_6, .string a0_7, .int .i64 a0_8, .int .i64 a0_9, .slice A0_10 l0_10.length c0_10, .slice A0_11 l0_11.length c0_11]) (t := 41) ?hr ?_; (case hd => rfl); (case hg => rfl); (case hr => first | (go_simp; done) | (go_simp; rfl)); intro gb233 hg w19 hbox hb; have n0_ := Aside0.mk (below_step (by repeat (first | (with_reducible first | exact HB.out | apply below_alloc | apply pw_below_drewN | apply below_drew1) | exact HB.out)) hb); have n1_ := Aside0.mk (hbox); have n2_ := Aside0.mk ((by rw [hg]; exact (below_size (by repeat (first | (with_reducible first | exact HB.out | apply below_alloc | apply pw_below_drewN | apply below_drew1) | exact HB.out))) : w.heap.size ≤ gb233)); have n3_ := Aside0.mk ((by rw [hg]; exact (below_size (by repeat (first | (with_reducible first | exact HB.out | apply below_alloc | apply pw_below_drewN | apply below_drew1) | exact HB.out))) : w.heap.size ≤ gb233)); clear HB; have HB := n0_; have BK233 := n1_; have GW233 := n2_; have GE233 := n3_; clear n0_ n1_ n2_ n3_; clear hb hbox hg) | ((with_reducible refine gate_dst (N := 3) rfl ?_); refine box_event ?hg (N := 3) ?hd (cs := #[.int .i64 a1_0, .int .i64 a1_1, .int .i64 a1_2, .int .i64 a1_3, .int .i64 a1_4, .int .i64 a1_5, .int .i64 a1_6, .string a1_7, .int .i64 a1_8, .int .i64 a1_9, .slice A1_10 l1_10.length c1_10, .slice A1_11 l1_11.length c1_11]) (t := 41) ?hr ?_; (case hd => rfl); (case hg => rfl); (case hr => first | (go_simp; done) | (go_simp; rfl)); intro gb234 hg w20 hbox hb; have n0_ := Aside0.mk (blk_below (g := gb233) (o := .cells #[.int .i64 a0_0, .int .i64 a0_1, .int .i64 a0_2, .int .i64 a0_3, .int .i64 a0_4, .int .i64 a0_5, .int .i64 a0_6, .string a0_7, .int .i64 a0_8, .int .i64 a0_9, .slice A0_10 l0_10.length c0_10, .slice A0_11 l0_11.length c0_11] 41 (0, 0)) (by (with_reducible repeat (first | refine blk_drewN ?_ _ | refine blk_drew ?_ | refine blk_alloc ?_ _)); exact BK233.out) hb); have n1_ := Aside0.mk (below_step (by repeat (first | (with_reducible first | exact HB.out | apply below_alloc | apply pw_below_drewN | apply below_drew1 | refine below_set ?_ GE233.out) | exact HB.out)) hb); have n2_ := Aside0.mk (hbox); have n3_ := Aside0.mk ((by rw [hg]; exact (below_size (by repeat (first | (with_reducible first | exact HB.out | apply below_alloc | apply pw_below_drewN | apply below_drew1 | refine below_set ?_ GE233.out) | exact HB.out))) : w.heap.size ≤ gb234)); have n4_ := Aside0.mk ((by rw [hg]; exact (below_size (by repeat (first | (with_reducible first | exact HB.out | apply below_alloc | apply pw_below_drewN | apply below_drew1 | refine below_set ?_ GE233.out) | exact HB.out))) : w.heap.size ≤ gb234)); have n5_ := Aside0.mk ((by rw [hg]; exact Nat.ne_of_lt (blk_lt (g := gb233) (o := .cells #[.int .i64 a0_0, .int .i64 a0_1, .int .i64 a0_2, .int .i64 a0_3, .int .i64 a0_4, .int .i64 a0_5, .int .i64 a0_6, .string a0_7, .int .i64 a0_8, .int .i64 a0_9, .slice A0_10 l0_10.length c0_10, .slice A0_11 l0_11.length c0_11] 41 (0, 0)) (by (with_reducible repeat (first | refine blk_drewN ?_ _ | refine blk_drew ?_ | refine blk_alloc ?_ _)); exact BK233.out)) : gb233 ≠ gb234)); have n6_ := Aside0.mk ((by rw [hg]; exact Nat.ne_of_gt (blk_lt (g := gb233) (o := .cells #[.int .i64 a0_0, .int .i64 a0_1, .int .i64 a0_2, .int .i64 a0_3, .int .i64 a0_4, .int .i64 a0_5, .int .i64 a0_6, .string a0_7, .int .i64 a0_8, .int .i64 a0_9, .slice A0_10 l0_10.length c0_10, .slice A0_11 l0_11.length c0_11] 41 (0, 0)) (by (with_reducible repeat (first | refine blk_drewN ?_ _ | refine blk_drew ?_ | refine blk_alloc ?_ _)); exact BK233.out)) : gb234 ≠ gb233)); clear BK233; clear HB; have BK233 := n0_; have HB := n1_; have BK234 := n2_; have GW234 := n3_; have GE234 := n4_; have NB233_234 := n5_; have NB234_233 := n6_; clear n0_ n1_ n2_ n3_ n4_ n5_ n6_; clear hb hbox hg; have hnb21 := NB233_234.out; have hnc21 := NB234_233.out; have hcz22_0 : w20.cell? ⟨gb233, 0, none⟩ = some (.int .i64 a0_0) := (blk_cell BK233.out 0).trans rfl; have hcz22_1 : w20.cell? ⟨gb233, 1, none⟩ = some (.int .i64 a0_1) := (blk_cell BK233.out 1).trans rfl; have hcz22_2 : w20.cell? ⟨gb233, 2, none⟩ = some (.int .i64 a0_2) := (blk_cell BK233.out 2).trans rfl; have hcz22_3 : w20.cell? ⟨gb233, 3, none⟩ = some (.int .i64 a0_3) := (blk_cell BK233.out 3).trans rfl; have hcz22_4 : w20.cell? ⟨gb233, 4, none⟩ = some (.int .i64 a0_4) := (blk_cell BK233.out 4).trans rfl; have hcz22_5 : w20.cell? ⟨gb233, 5, none⟩ = some (.int .i64 a0_5) := (blk_cell BK233.out 5).trans rfl; have hcz22_6 : w20.cell? ⟨gb233, 6, none⟩ = some (.int .i64 a0_6) := (blk_cell BK233.out 6).trans rfl; have hcz22_7 : w20.cell? ⟨gb233, 7, none⟩ = some (.string a0_7) := (blk_cell BK233.out 7).trans rfl; have hcz22_8 : w20.cell? ⟨gb233, 8, none⟩ = some (.int .i64 a0_8) := (blk_cell BK233.out 8).trans rfl; have hcz22_9 : w20.cell? ⟨gb233, 9, none⟩ = some (.int .i64 a0_9) := (blk_cell BK233.out 9).trans rfl; have hcz22_10 : w20.cell? ⟨gb233, 10, none⟩ = some (.slice A0_10 l0_10.length c0_10) := (blk_cell BK233.out 10).trans rfl; have hcz22_11 : w20.cell? ⟨gb233, 11, none⟩ = some (.slice A0_11 l0_11.length c0_11) := (blk_cell BK233.out 11).trans rfl; have hfz22_0 := blk_frozen BK233.out 0; have hfz22_1 := blk_frozen BK233.out 1; have hfz22_2 := blk_frozen BK233.out 2; have hfz22_3 := blk_frozen BK233.out 3; have hfz22_4 := blk_frozen BK233.out 4; have hfz22_5 := blk_frozen BK233.out 5; have hfz22_6 := blk_frozen BK233.out 6; have hfz22_7 := blk_frozen BK233.out 7; have hfz22_8 := blk_frozen BK233.out 8; have hfz22_9 := blk_frozen BK233.out 9; have hfz22_10 := blk_frozen BK233.out 10; have hfz22_11 := blk_frozen BK233.out 11; have hcz23_0 : w20.cell? ⟨gb234, 0, none⟩ = some (.int .i64 a1_0) := (blk_cell BK234.out 0).trans rfl; have hcz23_1 : w20.cell? ⟨gb234, 1, none⟩ = some (.int .i64 a1_1) := (blk_cell BK234.out 1).trans rfl; have hcz23_2 : w20.cell? ⟨gb234, 2, none⟩ = some (.int .i64 a1_2) := (blk_cell BK234.out 2).trans rfl; have hcz23_3 : w20.cell? ⟨gb234, 3, none⟩ = some (.int .i64 a1_3) := (blk_cell BK234.out 3).trans rfl; have hcz23_4 : w20.cell? ⟨gb234, 4, none⟩ = some (.int .i64 a1_4) := (blk_cell BK234.out 4).trans rfl; have hcz23_5 : w20.cell? ⟨gb234, 5, none⟩ = some (.int .i64 a1_5) := (blk_cell BK234.out 5).trans rfl; have hcz23_6 : w20.cell? ⟨gb234, 6, none⟩ = some (.int .i64 a1_6) := (blk_cell BK234.out 6).trans rfl; have hcz23_7 : w20.cell? ⟨gb234, 7, none⟩ = some (.string a1_7) := (blk_cell BK234.out 7).trans rfl; have hcz23_8 : w20.cell? ⟨gb234, 8, none⟩ = some (.int .i64 a1_8) := (blk_cell BK234.out 8).trans rfl; have hcz23_9 : w20.cell? ⟨gb234, 9, none⟩ = some (.int .i64 a1_9) := (blk_cell BK234.out 9).trans rfl; have hcz23_10 : w20.cell? ⟨gb234, 10, none⟩ = some (.slice A1_10 l1_10.length c1_10) := (blk_cell BK234.out 10).trans rfl; have hcz23_11 : w20.cell? ⟨gb234, 11, none⟩ = some (.slice A1_11 l1_11.length c1_11) := (blk_cell BK234.out 11).trans rfl; have hfz23_0 := blk_frozen BK234.out 0; have hfz23_1 := blk_frozen BK234.out 1; have hfz23_2 := blk_frozen BK234.out 2; have hfz23_3 := blk_frozen BK234.out 3; have hfz23_4 := blk_frozen BK234.out 4; have hfz23_5 := blk_frozen BK234.out 5; have hfz23_6 := blk_frozen BK234.out 6; have hfz23_7 := blk_frozen BK234.out 7; have hfz23_8 := blk_frozen BK234.out 8; have hfz23_9 := blk_frozen BK234.out 9; have hfz23_10 := blk_frozen BK234.out 10; have hfz23_11 := blk_frozen BK234.out 11) | (go_at_call 50; (with_reducible refine (gimbalref04_Same.calls k a0_4 a0_5 a0_6 a0_7 a0_8 a0_9 _ _ l0_10 a1_4 a1_5 a1_6 a1_7 a1_8 a1_9 _ _ l1_10 false _ ?side1 ?side2 ?side3 ?side4 A7.out).mono ?_); (case side1 => repeat (first | exact (Kd.C_below HR0_10.out HB.out) | (with_reducible refine Kd.C_alloc ?_ _) | (with_reducible refine Kd.C_drewN ?_ _) | (with_reducible refine Kd.C_drew ?_))); (case side2 => exact HC0_10.out); (case side3 => repeat (first | exact (Kd.C_below HR1_10.out HB.out) | (with_reducible refine Kd.C_alloc ?_ _) | (with_reducible refine Kd.C_drewN ?_ _) | (with_reducible refine Kd.C_drew ?_))); (case side4 => exact HC1_10.out); rintro e w24 ⟨rfl, hb⟩; have n0_ := Aside0.mk (blk_below (g := gb233) (o := .cells #[.int .i64 a0_0, .int .i64 a0_1, .int .i64 a0_2, .int .i64 a0_3, .int .i64 a0_4, .int .i64 a0_5, .int .i64 a0_6, .string a0_7, .int .i64 a0_8, .int .i64 a0_9, .slice A0_10 l0_10.length c0_10, .slice A0_11 l0_11.length c0_11] 41 (0, 0)) (by (with_reducible repeat (first | refine blk_drewN ?_ _ | refine blk_drew ?_ | refine blk_alloc ?_ _)); exact BK233.out) hb); have n1_ := Aside0.mk (blk_below (g := gb234) (o := .cells #[.int .i64 a1_0, .int .i64 a1_1, .int .i64 a1_2, .int .i64 a1_3, .int .i64 a1_4, .int .i64 a1_5, .int .i64 a1_6, .string a1_7, .int .i64 a1_8, .int .i64 a1_9, .slice A1_10 l1_10.length c1_10, .slice A1_11 l1_11.length c1_11] 41 (0, 0)) (by (with_reducible repeat (first | refine blk_drewN ?_ _ | refine blk_drew ?_ | refine blk_alloc ?_ _)); exact BK234.out) hb); have n2_ := Aside0.mk (below_step (by repeat (first | (with_reducible first | exact HB.out | apply below_alloc | apply pw_below_drewN | apply below_drew1 | refine below_set ?_ GE233.out | refine below_set ?_ GE234.out) | exact HB.out)) hb); clear BK233; clear BK234; clear HB; have BK233 := n0_; have BK234 := n1_; have HB := n2_; clear n0_ n1_ n2_; (try clear hb); (try clear hb2); (try clear hk); (try clear hi)))
            go_ret
            exact ⟨by first | rfl | (simp [errW_none, errW_some] <;> rfl) | (simp [*, errW_none, errW_some] <;> rfl), by repeat (first | (with_reducible first | exact HB.out | apply below_alloc | apply pw_below_drewN | apply below_drew1 | refine below_set ?_ GE233.out | refine below_set ?_ GE234.out) | exact HB.out)⟩
        · rw [if_neg c6] at H
          have c6b0 : (a0_3 == a1_3) = false := beq_eq_false_iff_ne.mpr c6
          have c6b1 : (a0_3 != a1_3) = true := bne_iff_ne.mpr c6
          obtain rfl := Option.some.inj H
          go_enter Tryd.func20, Tryd.ntmps20
          go_wp2_with (first | ((with_reducible refine gate_dst (N := 2) rfl ?_); refine box_event ?hg (N := 2) ?hd (cs := #[.int .i64 a0_0, .int .i64 a0_1, .int .i64 a0_2, .int .i64 a0_3, .int .i64 a0_4, .int .i64 a0_5, .int .i64 a0_6, .string a0_7, .int .i64 a0_8, .int .i64 a0_9, .slice A0_10 l0_10.length c0_10, .slice A0_11 l0_11.length c0_11]) (t := 41) ?hr ?_; (case hd => rfl); (case hg => rfl); (case hr => first | (go_simp; done) | (go_simp; rfl)); intro gb233 hg w25 hbox hb; have n0_ := Aside0.mk (below_step (by repeat (first | (with_reducible first | exact HB.out | apply below_alloc | apply pw_below_drewN | apply below_drew1) | exact HB.out)) hb); have n1_ := Aside0.mk (hbox); have n2_ := Aside0.mk ((by rw [hg]; exact (below_size (by repeat (first | (with_reducible first | exact HB.out | apply below_alloc | apply pw_below_drewN | apply below_drew1) | exact HB.out))) : w.heap.size ≤ gb233)); have n3_ := Aside0.mk ((by rw [hg]; exact (below_size (by repeat (first | (with_reducible first | exact HB.out | apply below_alloc | apply pw_below_drewN | apply below_drew1) | exact HB.out))) : w.heap.size ≤ gb233)); clear HB; have HB := n0_; have BK233 := n1_; have GW233 := n2_; have GE233 := n3_; clear n0_ n1_ n2_ n3_; clear hb hbox hg) | ((with_reducible refine gate_dst (N := 3) rfl ?_); refine box_event ?hg (N := 3) ?hd (cs := #[.int .i64 a1_0, .int .i64 a1_1, .int .i64 a1_2, .int .i64 a1_3, .int .i64 a1_4, .int .i64 a1_5, .int .i64 a1_6, .string a1_7, .int .i64 a1_8, .int .i64 a1_9, .slice A1_10 l1_10.length c1_10, .slice A1_11 l1_11.length c1_11]) (t := 41) ?hr ?_; (case hd => rfl); (case hg => rfl); (case hr => first | (go_simp; done) | (go_simp; rfl)); intro gb234 hg w26 hbox hb; have n0_ := Aside0.mk (blk_below (g := gb233) (o := .cells #[.int .i64 a0_0, .int .i64 a0_1, .int .i64 a0_2, .int .i64 a0_3, .int .i64 a0_4, .int .i64 a0_5, .int .i64 a0_6, .string a0_7, .int .i64 a0_8, .int .i64 a0_9, .slice A0_10 l0_10.length c0_10, .slice A0_11 l0_11.length c0_11] 41 (0, 0)) (by (with_reducible repeat (first | refine blk_drewN ?_ _ | refine blk_drew ?_ | refine blk_alloc ?_ _)); exact BK233.out) hb); have n1_ := Aside0.mk (below_step (by repeat (first | (with_reducible first | exact HB.out | apply below_alloc | apply pw_below_drewN | apply below_drew1 | refine below_set ?_ GE233.out) | exact HB.out)) hb); have n2_ := Aside0.mk (hbox); have n3_ := Aside0.mk ((by rw [hg]; exact (below_size (by repeat (first | (with_reducible first | exact HB.out | apply below_alloc | apply pw_below_drewN | apply below_drew1 | refine below_set ?_ GE233.out) | exact HB.out))) : w.heap.size ≤ gb234)); have n4_ := Aside0.mk ((by rw [hg]; exact (below_size (by repeat (first | (with_reducible first | exact HB.out | apply below_alloc | apply pw_below_drewN | apply below_drew1 | refine below_set ?_ GE233.out) | exact HB.out))) : w.heap.size ≤ gb234)); have n5_ := Aside0.mk ((by rw [hg]; exact Nat.ne_of_lt (blk_lt (g := gb233) (o := .cells #[.int .i64 a0_0, .int .i64 a0_1, .int .i64 a0_2, .int .i64 a0_3, .int .i64 a0_4, .int .i64 a0_5, .int .i64 a0_6, .string a0_7, .int .i64 a0_8, .int .i64 a0_9, .slice A0_10 l0_10.length c0_10, .slice A0_11 l0_11.length c0_11] 41 (0, 0)) (by (with_reducible repeat (first | refine blk_drewN ?_ _ | refine blk_drew ?_ | refine blk_alloc ?_ _)); exact BK233.out)) : gb233 ≠ gb234)); have n6_ := Aside0.mk ((by rw [hg]; exact Nat.ne_of_gt (blk_lt (g := gb233) (o := .cells #[.int .i64 a0_0, .int .i64 a0_1, .int .i64 a0_2, .int .i64 a0_3, .int .i64 a0_4, .int .i64 a0_5, .int .i64 a0_6, .string a0_7, .int .i64 a0_8, .int .i64 a0_9, .slice A0_10 l0_10.length c0_10, .slice A0_11 l0_11.length c0_11] 41 (0, 0)) (by (with_reducible repeat (first | refine blk_drewN ?_ _ | refine blk_drew ?_ | refine blk_alloc ?_ _)); exact BK233.out)) : gb234 ≠ gb233)); clear BK233; clear HB; have BK233 := n0_; have HB := n1_; have BK234 := n2_; have GW234 := n3_; have GE234 := n4_; have NB233_234 := n5_; have NB234_233 := n6_; clear n0_ n1_ n2_ n3_ n4_ n5_ n6_; clear hb hbox hg; have hnb27 := NB233_234.out; have hnc27 := NB234_233.out; have hcz28_0 : w26.cell? ⟨gb233, 0, none⟩ = some (.int .i64 a0_0) := (blk_cell BK233.out 0).trans rfl; have hcz28_1 : w26.cell? ⟨gb233, 1, none⟩ = some (.int .i64 a0_1) := (blk_cell BK233.out 1).trans rfl; have hcz28_2 : w26.cell? ⟨gb233, 2, none⟩ = some (.int .i64 a0_2) := (blk_cell BK233.out 2).trans rfl; have hcz28_3 : w26.cell? ⟨gb233, 3, none⟩ = some (.int .i64 a0_3) := (blk_cell BK233.out 3).trans rfl; have hcz28_4 : w26.cell? ⟨gb233, 4, none⟩ = some (.int .i64 a0_4) := (blk_cell BK233.out 4).trans rfl; have hcz28_5 : w26.cell? ⟨gb233, 5, none⟩ = some (.int .i64 a0_5) := (blk_cell BK233.out 5).trans rfl; have hcz28_6 : w26.cell? ⟨gb233, 6, none⟩ = some (.int .i64 a0_6) := (blk_cell BK233.out 6).trans rfl; have hcz28_7 : w26.cell? ⟨gb233, 7, none⟩ = some (.string a0_7) := (blk_cell BK233.out 7).trans rfl; have hcz28_8 : w26.cell? ⟨gb233, 8, none⟩ = some (.int .i64 a0_8) := (blk_cell BK233.out 8).trans rfl; have hcz28_9 : w26.cell? ⟨gb233, 9, none⟩ = some (.int .i64 a0_9) := (blk_cell BK233.out 9).trans rfl; have hcz28_10 : w26.cell? ⟨gb233, 10, none⟩ = some (.slice A0_10 l0_10.length c0_10) := (blk_cell BK233.out 10).trans rfl; have hcz28_11 : w26.cell? ⟨gb233, 11, none⟩ = some (.slice A0_11 l0_11.length c0_11) := (blk_cell BK233.out 11).trans rfl; have hfz28_0 := blk_frozen BK233.out 0; have hfz28_1 := blk_frozen BK233.out 1; have hfz28_2 := blk_frozen BK233.out 2; have hfz28_3 := blk_frozen BK233.out 3; have hfz28_4 := blk_frozen BK233.out 4; have hfz28_5 := blk_frozen BK233.out 5; have hfz28_6 := blk_frozen BK233.out 6; have hfz28_7 := blk_frozen BK233.out 7; have hfz28_8 := blk_frozen BK233.out 8; have hfz28_9 := blk_frozen BK233.out 9; have hfz28_10 := blk_frozen BK233.out 10; have hfz28_11 := blk_frozen BK233.out 11; have hcz29_0 : w26.cell? ⟨gb234, 0, none⟩ = some (.int .i64 a1_0) := (blk_cell BK234.out 0).trans rfl; have hcz29_1 : w26.cell? ⟨gb234, 1, none⟩ = some (.int .i64 a1_1) := (blk_cell BK234.out 1).trans rfl; have hcz29_2 : w26.cell? ⟨gb234, 2, none⟩ = some (.int .i64 a1_2) := (blk_cell BK234.out 2).trans rfl; have hcz29_3 : w26.cell? ⟨gb234, 3, none⟩ = some (.int .i64 a1_3) := (blk_cell BK234.out 3).trans rfl; have hcz29_4 : w26.cell? ⟨gb234, 4, none⟩ = some (.int .i64 a1_4) := (blk_cell BK234.out 4).trans rfl; have hcz29_5 : w26.cell? ⟨gb234, 5, none⟩ = some (.int .i64 a1_5) := (blk_cell BK234.out 5).trans rfl; have hcz29_6 : w26.cell? ⟨gb234, 6, none⟩ = some (.int .i64 a1_6) := (blk_cell BK234.out 6).trans rfl; have hcz29_7 : w26.cell? ⟨gb234, 7, none⟩ = some (.string a1_7) := (blk_cell BK234.out 7).trans rfl; have hcz29_8 : w26.cell? ⟨gb234, 8, none⟩ = some (.int .i64 a1_8) := (blk_cell BK234.out 8).trans rfl; have hcz29_9 : w26.cell? ⟨gb234, 9, none⟩ = some (.int .i64 a1_9) := (blk_cell BK234.out 9).trans rfl; have hcz29_10 : w26.cell? ⟨gb234, 10, none⟩ = some (.slice A1_10 l1_10.length c1_10) := (blk_cell BK234.out 10).trans rfl; have hcz29_11 : w26.cell? ⟨gb234, 11, none⟩ = some (.slice A1_11 l1_11.length c1_11) := (blk_cell BK234.out 11).trans rfl; have hfz29_0 := blk_frozen BK234.out 0; have hfz29_1 := blk_frozen BK234.out 1; have hfz29_2 := blk_frozen BK234.out 2; have hfz29_3 := blk_frozen BK234.out 3; have hfz29_4 := blk_frozen BK234.out 4; have hfz29_5 := blk_frozen BK234.out 5; have hfz29_6 := blk_frozen BK234.out 6; have hfz29_7 := blk_frozen BK234.out 7; have hfz29_8 := blk_frozen BK234.out 8; have hfz29_9 := blk_frozen BK234.out 9; have hfz29_10 := blk_frozen BK234.out 10; have hfz29_11 := blk_frozen BK234.out 11))
          go_ret
          exact ⟨by first | rfl | (simp [errW_none, errW_some] <;> rfl) | (simp [*, errW_none, errW_some] <;> rfl), by repeat (first | (with_reducible first | exact HB.out | apply below_alloc | apply pw_below_drewN | apply below_drew1 | refine below_set ?_ GE233.out | refine below_set ?_ GE234.out) | exact HB.out)⟩
      · rw [if_neg c5] at H
        have c5b0 : (a0_2 == a1_2) = false := beq_eq_false_iff_ne.mpr c5
        have c5b1 : (a0_2 != a1_2) = true := bne_iff_ne.mpr c5
        obtain rfl := Option.some.inj H
        go_enter Tryd.func20, Tryd.ntmps20
        go_wp2_with (first | ((with_reducible refine gate_dst (N := 2) rfl ?_); refine box_event ?hg (N := 2) ?hd (cs := #[.int .i64 a0_0, .int .i64 a0_1, .int .i64 a0_2, .int .i64 a0_3, .int .i64 a0_4, .int .i64 a0_5, .int .i64 a0_6, .string a0_7, .int .i64 a0_8, .int .i64 a0_9, .slice A0_10 l0_10.length c0_10, .slice A0_11 l0_11.length c0_11]) (t := 41) ?hr ?_; (case hd => rfl); (case hg => rfl); (case hr => first | (go_simp; done) | (go_simp; rfl)); intro gb233 hg w30 hbox hb; have n0_ := Aside0.mk (below_step (by repeat (first | (with_reducible first | exact HB.out | apply below_alloc | apply pw_below_drewN | apply below_drew1) | exact HB.out)) hb); have n1_ := Aside0.mk (hbox); have n2_ := Aside0.mk ((by rw [hg]; exact (below_size (by repeat (first | (with_reducible first | exact HB.out | apply below_alloc | apply pw_below_drewN | apply below_drew1) | exact HB.out))) : w.heap.size ≤ gb233)); have n3_ := Aside0.mk ((by rw [hg]; exact (below_size (by repeat (first | (with_reducible first | exact HB.out | apply below_alloc | apply pw_below_drewN | apply below_drew1) | exact HB.out))) : w.heap.size ≤ gb233)); clear HB; have HB := n0_; have BK233 := n1_; have GW233 := n2_; have GE233 := n3_; clear n0_ n1_ n2_ n3_; clear hb hbox hg) | ((with_reducible refine gate_dst (N := 3) rfl ?_); refine box_event ?hg (N := 3) ?hd (cs := #[.int .i64 a1_0, .int .i64 a1_1, .int .i64 a1_2, .int .i64 a1_3, .int .i64 a1_4, .int .i64 a1_5, .int .i64 a1_6, .string a1_7, .int .i64 a1_8, .int .i64 a1_9, .slice A1_10 l1_10.length c1_10, .slice A1_11 l1_11.length c1_11]) (t := 41) ?hr ?_; (case hd => rfl); (case hg => rfl); (case hr => first | (go_simp; done) | (go_simp; rfl)); intro gb234 hg w31 hbox hb; have n0_ := Aside0.mk (blk_below (g := gb233) (o := .cells #[.int .i64 a0_0, .int .i64 a0_1, .int .i64 a0_2, .int .i64 a0_3, .int .i64 a0_4, .int .i64 a0_5, .int .i64 a0_6, .string a0_7, .int .i64 a0_8, .int .i64 a0_9, .slice A0_10 l0_10.length c0_10, .slice A0_11 l0_11.length c0_11] 41 (0, 0)) (by (with_reducible repeat (first | refine blk_drewN ?_ _ | refine blk_drew ?_ | refine blk_alloc ?_ _)); exact BK233.out) hb); have n1_ := Aside0.mk (below_step (by repeat (first | (with_reducible first | exact HB.out | apply below_alloc | apply pw_below_drewN | apply below_drew1 | refine below_set ?_ GE233.out) | exact HB.out)) hb); have n2_ := Aside0.mk (hbox); have n3_ := Aside0.mk ((by rw [hg]; exact (below_size (by repeat (first | (with_reducible first | exact HB.out | apply below_alloc | apply pw_below_drewN | apply below_drew1 | refine below_set ?_ GE233.out) | exact HB.out))) : w.heap.size ≤ gb234)); have n4_ := Aside0.mk ((by rw [hg]; exact (below_size (by repeat (first | (with_reducible first | exact HB.out | apply below_alloc | apply pw_below_drewN | apply below_drew1 | refine below_set ?_ GE233.out) | exact HB.out))) : w.heap.size ≤ gb234)); have n5_ := Aside0.mk ((by rw [hg]; exact Nat.ne_of_lt (blk_lt (g := gb233) (o := .cells #[.int .i64 a0_0, .int .i64 a0_1, .int .i64 a0_2, .int .i64 a0_3, .int .i64 a0_4, .int .i64 a0_5, .int .i64 a0_6, .string a0_7, .int .i64 a0_8, .int .i64 a0_9, .slice A0_10 l0_10.length c0_10, .slice A0_11 l0_11.length c0_11] 41 (0, 0)) (by (with_reducible repeat (first | refine blk_drewN ?_ _ | refine blk_drew ?_ | refine blk_alloc ?_ _)); exact BK233.out)) : gb233 ≠ gb234)); have n6_ := Aside0.mk ((by rw [hg]; exact Nat.ne_of_gt (blk_lt (g := gb233) (o := .cells #[.int .i64 a0_0, .int .i64 a0_1, .int .i64 a0_2, .int .i64 a0_3, .int .i64 a0_4, .int .i64 a0_5, .int .i64 a0_6, .string a0_7, .int .i64 a0_8, .int .i64 a0_9, .slice A0_10 l0_10.length c0_10, .slice A0_11 l0_11.length c0_11] 41 (0, 0)) (by (with_reducible repeat (first | refine blk_drewN ?_ _ | refine blk_drew ?_ | refine blk_alloc ?_ _)); exact BK233.out)) : gb234 ≠ gb233)); clear BK233; clear HB; have BK233 := n0_; have HB := n1_; have BK234 := n2_; have GW234 := n3_; have GE234 := n4_; have NB233_234 := n5_; have NB234_233 := n6_; clear n0_ n1_ n2_ n3_ n4_ n5_ n6_; clear hb hbox hg; have hnb32 := NB233_234.out; have hnc32 := NB234_233.out; have hcz33_0 : w31.cell? ⟨gb233, 0, none⟩ = some (.int .i64 a0_0) := (blk_cell BK233.out 0).trans rfl; have hcz33_1 : w31.cell? ⟨gb233, 1, none⟩ = some (.int .i64 a0_1) := (blk_cell BK233.out 1).trans rfl; have hcz33_2 : w31.cell? ⟨gb233, 2, none⟩ = some (.int .i64 a0_2) := (blk_cell BK233.out 2).trans rfl; have hcz33_3 : w31.cell? ⟨gb233, 3, none⟩ = some (.int .i64 a0_3) := (blk_cell BK233.out 3).trans rfl; have hcz33_4 : w31.cell? ⟨gb233, 4, none⟩ = some (.int .i64 a0_4) := (blk_cell BK233.out 4).trans rfl; have hcz33_5 : w31.cell? ⟨gb233, 5, none⟩ = some (.int .i64 a0_5) := (blk_cell BK233.out 5).trans rfl; have hcz33_6 : w31.cell? ⟨gb233, 6, none⟩ = some (.int .i64 a0_6) := (blk_cell BK233.out 6).trans rfl; have hcz33_7 : w31.cell? ⟨gb233, 7, none⟩ = some (.string a0_7) := (blk_cell BK233.out 7).trans rfl; have hcz33_8 : w31.cell? ⟨gb233, 8, none⟩ = some (.int .i64 a0_8) := (blk_cell BK233.out 8).trans rfl; have hcz33_9 : w31.cell? ⟨gb233, 9, none⟩ = some (.int .i64 a0_9) := (blk_cell BK233.out 9).trans rfl; have hcz33_10 : w31.cell? ⟨gb233, 10, none⟩ = some (.slice A0_10 l0_10.length c0_10) := (blk_cell BK233.out 10).trans rfl; have hcz33_11 : w31.cell? ⟨gb233, 11, none⟩ = some (.slice A0_11 l0_11.length c0_11) := (blk_cell BK233.out 11).trans rfl; have hfz33_0 := blk_frozen BK233.out 0; have hfz33_1 := blk_frozen BK233.out 1; have hfz33_2 := blk_frozen BK233.out 2; have hfz33_3 := blk_frozen BK233.out 3; have hfz33_4 := blk_frozen BK233.out 4; have hfz33_5 := blk_frozen BK233.out 5; have hfz33_6 := blk_frozen BK233.out 6; have hfz33_7 := blk_frozen BK233.out 7; have hfz33_8 := blk_frozen BK233.out 8; have hfz33_9 := blk_frozen BK233.out 9; have hfz33_10 := blk_frozen BK233.out 10; have hfz33_11 := blk_frozen BK233.out 11; have hcz34_0 : w31.cell? ⟨gb234, 0, none⟩ = some (.int .i64 a1_0) := (blk_cell BK234.out 0).trans rfl; have hcz34_1 : w31.cell? ⟨gb234, 1, none⟩ = some (.int .i64 a1_1) := (blk_cell BK234.out 1).trans rfl; have hcz34_2 : w31.cell? ⟨gb234, 2, none⟩ = some (.int .i64 a1_2) := (blk_cell BK234.out 2).trans rfl; have hcz34_3 : w31.cell? ⟨gb234, 3, none⟩ = some (.int .i64 a1_3) := (blk_cell BK234.out 3).trans rfl; have hcz34_4 : w31.cell? ⟨gb234, 4, none⟩ = some (.int .i64 a1_4) := (blk_cell BK234.out 4).trans rfl; have hcz34_5 : w31.cell? ⟨gb234, 5, none⟩ = some (.int .i64 a1_5) := (blk_cell BK234.out 5).trans rfl; have hcz34_6 : w31.cell? ⟨gb234, 6, none⟩ = some (.int .i64 a1_6) := (blk_cell BK234.out 6).trans rfl; have hcz34_7 : w31.cell? ⟨gb234, 7, none⟩ = some (.string a1_7) := (blk_cell BK234.out 7).trans rfl; have hcz34_8 : w31.cell? ⟨gb234, 8, none⟩ = some (.int .i64 a1_8) := (blk_cell BK234.out 8).trans rfl; have hcz34_9 : w31.cell? ⟨gb234, 9, none⟩ = some (.int .i64 a1_9) := (blk_cell BK234.out 9).trans rfl; have hcz34_10 : w31.cell? ⟨gb234, 10, none⟩ = some (.slice A1_10 l1_10.length c1_10) := (blk_cell BK234.out 10).trans rfl; have hcz34_11 : w31.cell? ⟨gb234, 11, none⟩ = some (.slice A1_11 l1_11.length c1_11) := (blk_cell BK234.out 11).trans rfl; have hfz34_0 := blk_frozen BK234.out 0; have hfz34_1 := blk_frozen BK234.out 1; have hfz34_2 := blk_frozen BK234.out 2; have hfz34_3 := blk_frozen BK234.out 3; have hfz34_4 := blk_frozen BK234.out 4; have hfz34_5 := blk_frozen BK234.out 5; have hfz34_6 := blk_frozen BK234.out 6; have hfz34_7 := blk_frozen BK234.out 7; have hfz34_8 := blk_frozen BK234.out 8; have hfz34_9 := blk_frozen BK234.out 9; have hfz34_10 := blk_frozen BK234.out 10; have hfz34_11 := blk_frozen BK234.out 11))
        go_ret
        exact ⟨by first | rfl | (simp [errW_none, errW_some] <;> rfl) | (simp [*, errW_none, errW_some] <;> rfl), by repeat (first | (with_reducible first | exact HB.out | apply below_alloc | apply pw_below_drewN | apply below_drew1 | refine below_set ?_ GE233.out | refine below_set ?_ GE234.out) | exact HB.out)⟩
    · rw [if_neg c4] at H
      have c4b0 : (a0_1 == a1_1) = false := beq_eq_false_iff_ne.mpr c4
      have c4b1 : (a0_1 != a1_1) = true := bne_iff_ne.mpr c4
      obtain rfl := Option.some.inj H
      go_enter Tryd.func20, Tryd.ntmps20
      go_wp2_with (first | ((with_reducible refine gate_dst (N := 2) rfl ?_); refine box_event ?hg (N := 2) ?hd (cs := #[.int .i64 a0_0, .int .i64 a0_1, .int .i64 a0_2, .int .i64 a0_3, .int .i64 a0_4, .int .i64 a0_5, .int .i64 a0_6, .string a0_7, .int .i64 a0_8, .int .i64 a0_9, .slice A0_10 l0_10.length c0_10, .slice A0_11 l0_11.length c0_11]) (t := 41) ?hr ?_; (case hd => rfl); (case hg => rfl); (case hr => first | (go_simp; done) | (go_simp; rfl)); intro gb233 hg w35 hbox hb; have n0_ := Aside0.mk (below_step (by repeat (first | (with_reducible first | exact HB.out | apply below_alloc | apply pw_below_drewN | apply below_drew1) | exact HB.out)) hb); have n1_ := Aside0.mk (hbox); have n2_ := Aside0.mk ((by rw [hg]; exact (below_size (by repeat (first | (with_reducible first | exact HB.out | apply below_alloc | apply pw_below_drewN | apply below_drew1) | exact HB.out))) : w.heap.size ≤ gb233)); have n3_ := Aside0.mk ((by rw [hg]; exact (below_size (by repeat (first | (with_reducible first | exact HB.out | apply below_alloc | apply pw_below_drewN | apply below_drew1) | exact HB.out))) : w.heap.size ≤ gb233)); clear HB; have HB := n0_; have BK233 := n1_; have GW233 := n2_; have GE233 := n3_; clear n0_ n1_ n2_ n3_; clear hb hbox hg) | ((with_reducible refine gate_dst (N := 3) rfl ?_); refine box_event ?hg (N := 3) ?hd (cs := #[.int .i64 a1_0, .int .i64 a1_1, .int .i64 a1_2, .int .i64 a1_3, .int .i64 a1_4, .int .i64 a1_5, .int .i64 a1_6, .string a1_7, .int .i64 a1_8, .int .i64 a1_9, .slice A1_10 l1_10.length c1_10, .slice A1_11 l1_11.length c1_11]) (t := 41) ?hr ?_; (case hd => rfl); (case hg => rfl); (case hr => first | (go_simp; done) | (go_simp; rfl)); intro gb234 hg w36 hbox hb; have n0_ := Aside0.mk (blk_below (g := gb233) (o := .cells #[.int .i64 a0_0, .int .i64 a0_1, .int .i64 a0_2, .int .i64 a0_3, .int .i64 a0_4, .int .i64 a0_5, .int .i64 a0_6, .string a0_7, .int .i64 a0_8, .int .i64 a0_9, .slice A0_10 l0_10.length c0_10, .slice A0_11 l0_11.length c0_11] 41 (0, 0)) (by (with_reducible repeat (first | refine blk_drewN ?_ _ | refine blk_drew ?_ | refine blk_alloc ?_ _)); exact BK233.out) hb); have n1_ := Aside0.mk (below_step (by repeat (first | (with_reducible first | exact HB.out | apply below_alloc | apply pw_below_drewN | apply below_drew1 | refine below_set ?_ GE233.out) | exact HB.out)) hb); have n2_ := Aside0.mk (hbox); have n3_ := Aside0.mk ((by rw [hg]; exact (below_size (by repeat (first | (with_reducible first | exact HB.out | apply below_alloc | apply pw_below_drewN | apply below_drew1 | refine below_set ?_ GE233.out) | exact HB.out))) : w.heap.size ≤ gb234)); have n4_ := Aside0.mk ((by rw [hg]; exact (below_size (by repeat (first | (with_reducible first | exact HB.out | apply below_alloc | apply pw_below_drewN | apply below_drew1 | refine below_set ?_ GE233.out) | exact HB.out))) : w.heap.size ≤ gb234)); have n5_ := Aside0.mk ((by rw [hg]; exact Nat.ne_of_lt (blk_lt (g := gb233) (o := .cells #[.int .i64 a0_0, .int .i64 a0_1, .int .i64 a0_2, .int .i64 a0_3, .int .i64 a0_4, .int .i64 a0_5, .int .i64 a0_6, .string a0_7, .int .i64 a0_8, .int .i64 a0_9, .slice A0_10 l0_10.length c0_10, .slice A0_11 l0_11.length c0_11] 41 (0, 0)) (by (with_reducible repeat (first | refine blk_drewN ?_ _ | refine blk_drew ?_ | refine blk_alloc ?_ _)); exact BK233.out)) : gb233 ≠ gb234)); have n6_ := Aside0.mk ((by rw [hg]; exact Nat.ne_of_gt (blk_lt (g := gb233) (o := .cells #[.int .i64 a0_0, .int .i64 a0_1, .int .i64 a0_2, .int .i64 a0_3, .int .i64 a0_4, .int .i64 a0_5, .int .i64 a0_6, .string a0_7, .int .i64 a0_8, .int .i64 a0_9, .slice A0_10 l0_10.length c0_10, .slice A0_11 l0_11.length c0_11] 41 (0, 0)) (by (with_reducible repeat (first | refine blk_drewN ?_ _ | refine blk_drew ?_ | refine blk_alloc ?_ _)); exact BK233.out)) : gb234 ≠ gb233)); clear BK233; clear HB; have BK233 := n0_; have HB := n1_; have BK234 := n2_; have GW234 := n3_; have GE234 := n4_; have NB233_234 := n5_; have NB234_233 := n6_; clear n0_ n1_ n2_ n3_ n4_ n5_ n6_; clear hb hbox hg; have hnb37 := NB233_234.out; have hnc37 := NB234_233.out; have hcz38_0 : w36.cell? ⟨gb233, 0, none⟩ = some (.int .i64 a0_0) := (blk_cell BK233.out 0).trans rfl; have hcz38_1 : w36.cell? ⟨gb233, 1, none⟩ = some (.int .i64 a0_1) := (blk_cell BK233.out 1).trans rfl; have hcz38_2 : w36.cell? ⟨gb233, 2, none⟩ = some (.int .i64 a0_2) := (blk_cell BK233.out 2).trans rfl; have hcz38_3 : w36.cell? ⟨gb233, 3, none⟩ = some (.int .i64 a0_3) := (blk_cell BK233.out 3).trans rfl; have hcz38_4 : w36.cell? ⟨gb233, 4, none⟩ = some (.int .i64 a0_4) := (blk_cell BK233.out 4).trans rfl; have hcz38_5 : w36.cell? ⟨gb233, 5, none⟩ = some (.int .i64 a0_5) := (blk_cell BK233.out 5).trans rfl; have hcz38_6 : w36.cell? ⟨gb233, 6, none⟩ = some (.int .i64 a0_6) := (blk_cell BK233.out 6).trans rfl; have hcz38_7 : w36.cell? ⟨gb233, 7, none⟩ = some (.string a0_7) := (blk_cell BK233.out 7).trans rfl; have hcz38_8 : w36.cell? ⟨gb233, 8, none⟩ = some (.int .i64 a0_8) := (blk_cell BK233.out 8).trans rfl; have hcz38_9 : w36.cell? ⟨gb233, 9, none⟩ = some (.int .i64 a0_9) := (blk_cell BK233.out 9).trans rfl; have hcz38_10 : w36.cell? ⟨gb233, 10, none⟩ = some (.slice A0_10 l0_10.length c0_10) := (blk_cell BK233.out 10).trans rfl; have hcz38_11 : w36.cell? ⟨gb233, 11, none⟩ = some (.slice A0_11 l0_11.length c0_11) := (blk_cell BK233.out 11).trans rfl; have hfz38_0 := blk_frozen BK233.out 0; have hfz38_1 := blk_frozen BK233.out 1; have hfz38_2 := blk_frozen BK233.out 2; have hfz38_3 := blk_frozen BK233.out 3; have hfz38_4 := blk_frozen BK233.out 4; have hfz38_5 := blk_frozen BK233.out 5; have hfz38_6 := blk_frozen BK233.out 6; have hfz38_7 := blk_frozen BK233.out 7; have hfz38_8 := blk_frozen BK233.out 8; have hfz38_9 := blk_frozen BK233.out 9; have hfz38_10 := blk_frozen BK233.out 10; have hfz38_11 := blk_frozen BK233.out 11; have hcz39_0 : w36.cell? ⟨gb234, 0, none⟩ = some (.int .i64 a1_0) := (blk_cell BK234.out 0).trans rfl; have hcz39_1 : w36.cell? ⟨gb234, 1, none⟩ = some (.int .i64 a1_1) := (blk_cell BK234.out 1).trans rfl; have hcz39_2 : w36.cell? ⟨gb234, 2, none⟩ = some (.int .i64 a1_2) := (blk_cell BK234.out 2).trans rfl; have hcz39_3 : w36.cell? ⟨gb234, 3, none⟩ = some (.int .i64 a1_3) := (blk_cell BK234.out 3).trans rfl; have hcz39_4 : w36.cell? ⟨gb234, 4, none⟩ = some (.int .i64 a1_4) := (blk_cell BK234.out 4).trans rfl; have hcz39_5 : w36.cell? ⟨gb234, 5, none⟩ = some (.int .i64 a1_5) := (blk_cell BK234.out 5).trans rfl; have hcz39_6 : w36.cell? ⟨gb234, 6, none⟩ = some (.int .i64 a1_6) := (blk_cell BK234.out 6).trans rfl; have hcz39_7 : w36.cell? ⟨gb234, 7, none⟩ = some (.string a1_7) := (blk_cell BK234.out 7).trans rfl; have hcz39_8 : w36.cell? ⟨gb234, 8, none⟩ = some (.int .i64 a1_8) := (blk_cell BK234.out 8).trans rfl; have hcz39_9 : w36.cell? ⟨gb234, 9, none⟩ = some (.int .i64 a1_9) := (blk_cell BK234.out 9).trans rfl; have hcz39_10 : w36.cell? ⟨gb234, 10, none⟩ = some (.slice A1_10 l1_10.length c1_10) := (blk_cell BK234.out 10).trans rfl; have hcz39_11 : w36.cell? ⟨gb234, 11, none⟩ = some (.slice A1_11 l1_11.length c1_11) := (blk_cell BK234.out 11).trans rfl; have hfz39_0 := blk_frozen BK234.out 0; have hfz39_1 := blk_frozen BK234.out 1; have hfz39_2 := blk_frozen BK234.out 2; have hfz39_3 := blk_frozen BK234.out 3; have hfz39_4 := blk_frozen BK234.out 4; have hfz39_5 := blk_frozen BK234.out 5; have hfz39_6 := blk_frozen BK234.out 6; have hfz39_7 := blk_frozen BK234.out 7; have hfz39_8 := blk_frozen BK234.out 8; have hfz39_9 := blk_frozen BK234.out 9; have hfz39_10 := blk_frozen BK234.out 10; have hfz39_11 := blk_frozen BK234.out 11))
      go_ret
      exact ⟨by first | rfl | (simp [errW_none, errW_some] <;> rfl) | (simp [*, errW_none, errW_some] <;> rfl), by repeat (first | (with_reducible first | exact HB.out | apply below_alloc | apply pw_below_drewN | apply below_drew1 | refine below_set ?_ GE233.out | refine below_set ?_ GE234.out) | exact HB.out)⟩
  · rw [if_neg c3] at H
    have c3b0 : (a0_0 == a1_0) = false := beq_eq_false_iff_ne.mpr c3
    have c3b1 : (a0_0 != a1_0) = true := bne_iff_ne.mpr c3
    obtain rfl := Option.some.inj H
    go_enter Tryd.func20, Tryd.ntmps20
    go_wp2_with (first | ((with_reducible refine gate_dst (N := 2) rfl ?_); refine box_event ?hg (N := 2) ?hd (cs := #[.int .i64 a0_0, .int .i64 a0_1, .int .i64 a0_2, .int .i64 a0_3, .int .i64 a0_4, .int .i64 a0_5, .int .i64 a0_6, .string a0_7, .int .i64 a0_8, .int .i64 a0_9, .slice A0_10 l0_10.length c0_10, .slice A0_11 l0_11.length c0_11]) (t := 41) ?hr ?_; (case hd => rfl); (case hg => rfl); (case hr => first | (go_simp; done) | (go_simp; rfl)); intro gb233 hg w40 hbox hb; have n0_ := Aside0.mk (below_step (by repeat (first | (with_reducible first | exact HB.out | apply below_alloc | apply pw_below_drewN | apply below_drew1) | exact HB.out)) hb); have n1_ := Aside0.mk (hbox); have n2_ := Aside0.mk ((by rw [hg]; exact (below_size (by repeat (first | (with_reducible first | exact HB.out | apply below_alloc | apply pw_below_drewN | apply below_drew1) | exact HB.out))) : w.heap.size ≤ gb233)); have n3_ := Aside0.mk ((by rw [hg]; exact (below_size (by repeat (first | (with_reducible first | exact HB.out | apply below_alloc | apply pw_below_drewN | apply below_drew1) | exact HB.out))) : w.heap.size ≤ gb233)); clear HB; have HB := n0_; have BK233 := n1_; have GW233 := n2_; have GE233 := n3_; clear n0_ n1_ n2_ n3_; clear hb hbox hg) | ((with_reducible refine gate_dst (N := 3) rfl ?_); refine box_event ?hg (N := 3) ?hd (cs := #[.int .i64 a1_0, .int .i64 a1_1, .int .i64 a1_2, .int .i64 a1_3, .int .i64 a1_4, .int .i64 a1_5, .int .i64 a1_6, .string a1_7, .int .i64 a1_8, .int .i64 a1_9, .slice A1_10 l1_10.length c1_10, .slice A1_11 l1_11.length c1_11]) (t := 41) ?hr ?_; (case hd => rfl); (case hg => rfl); (case hr => first | (go_simp; done) | (go_simp; rfl)); intro gb234 hg w41 hbox hb; have n0_ := Aside0.mk (blk_below (g := gb233) (o := .cells #[.int .i64 a0_0, .int .i64 a0_1, .int .i64 a0_2, .int .i64 a0_3, .int .i64 a0_4, .int .i64 a0_5, .int .i64 a0_6, .string a0_7, .int .i64 a0_8, .int .i64 a0_9, .slice A0_10 l0_10.length c0_10, .slice A0_11 l0_11.length c0_11] 41 (0, 0)) (by (with_reducible repeat (first | refine blk_drewN ?_ _ | refine blk_drew ?_ | refine blk_alloc ?_ _)); exact BK233.out) hb); have n1_ := Aside0.mk (below_step (by repeat (first | (with_reducible first | exact HB.out | apply below_alloc | apply pw_below_drewN | apply below_drew1 | refine below_set ?_ GE233.out) | exact HB.out)) hb); have n2_ := Aside0.mk (hbox); have n3_ := Aside0.mk ((by rw [hg]; exact (below_size (by repeat (first | (with_reducible first | exact HB.out | apply below_alloc | apply pw_below_drewN | apply below_drew1 | refine below_set ?_ GE233.out) | exact HB.out))) : w.heap.size ≤ gb234)); have n4_ := Aside0.mk ((by rw [hg]; exact (below_size (by repeat (first | (with_reducible first | exact HB.out | apply below_alloc | apply pw_below_drewN | apply below_drew1 | refine below_set ?_ GE233.out) | exact HB.out))) : w.heap.size ≤ gb234)); have n5_ := Aside0.mk ((by rw [hg]; exact Nat.ne_of_lt (blk_lt (g := gb233) (o := .cells #[.int .i64 a0_0, .int .i64 a0_1, .int .i64 a0_2, .int .i64 a0_3, .int .i64 a0_4, .int .i64 a0_5, .int .i64 a0_6, .string a0_7, .int .i64 a0_8, .int .i64 a0_9, .slice A0_10 l0_10.length c0_10, .slice A0_11 l0_11.length c0_11] 41 (0, 0)) (by (with_reducible repeat (first | refine blk_drewN ?_ _ | refine blk_drew ?_ | refine blk_alloc ?_ _)); exact BK233.out)) : gb233 ≠ gb234)); have n6_ := Aside0.mk ((by rw [hg]; exact Nat.ne_of_gt (blk_lt (g := gb233) (o := .cells #[.int .i64 a0_0, .int .i64 a0_1, .int .i64 a0_2, .int .i64 a0_3, .int .i64 a0_4, .int .i64 a0_5, .int .i64 a0_6, .string a0_7, .int .i64 a0_8, .int .i64 a0_9, .slice A0_10 l0_10.length c0_10, .slice A0_11 l0_11.length c0_11] 41 (0, 0)) (by (with_reducible repeat (first | refine blk_drewN ?_ _ | refine blk_drew ?_ | refine blk_alloc ?_ _)); exact BK233.out)) : gb234 ≠ gb233)); clear BK233; clear HB; have BK233 := n0_; have HB := n1_; have BK234 := n2_; have GW234 := n3_; have GE234 := n4_; have NB233_234 := n5_; have NB234_233 := n6_; clear n0_ n1_ n2_ n3_ n4_ n5_ n6_; clear hb hbox hg; have hnb42 := NB233_234.out; have hnc42 := NB234_233.out; have hcz43_0 : w41.cell? ⟨gb233, 0, none⟩ = some (.int .i64 a0_0) := (blk_cell BK233.out 0).trans rfl; have hcz43_1 : w41.cell? ⟨gb233, 1, none⟩ = some (.int .i64 a0_1) := (blk_cell BK233.out 1).trans rfl; have hcz43_2 : w41.cell? ⟨gb233, 2, none⟩ = some (.int .i64 a0_2) := (blk_cell BK233.out 2).trans rfl; have hcz43_3 : w41.cell? ⟨gb233, 3, none⟩ = some (.int .i64 a0_3) := (blk_cell BK233.out 3).trans rfl; have hcz43_4 : w41.cell? ⟨gb233, 4, none⟩ = some (.int .i64 a0_4) := (blk_cell BK233.out 4).trans rfl; have hcz43_5 : w41.cell? ⟨gb233, 5, none⟩ = some (.int .i64 a0_5) := (blk_cell BK233.out 5).trans rfl; have hcz43_6 : w41.cell? ⟨gb233, 6, none⟩ = some (.int .i64 a0_6) := (blk_cell BK233.out 6).trans rfl; have hcz43_7 : w41.cell? ⟨gb233, 7, none⟩ = some (.string a0_7) := (blk_cell BK233.out 7).trans rfl; have hcz43_8 : w41.cell? ⟨gb233, 8, none⟩ = some (.int .i64 a0_8) := (blk_cell BK233.out 8).trans rfl; have hcz43_9 : w41.cell? ⟨gb233, 9, none⟩ = some (.int .i64 a0_9) := (blk_cell BK233.out 9).trans rfl; have hcz43_10 : w41.cell? ⟨gb233, 10, none⟩ = some (.slice A0_10 l0_10.length c0_10) := (blk_cell BK233.out 10).trans rfl; have hcz43_11 : w41.cell? ⟨gb233, 11, none⟩ = some (.slice A0_11 l0_11.length c0_11) := (blk_cell BK233.out 11).trans rfl; have hfz43_0 := blk_frozen BK233.out 0; have hfz43_1 := blk_frozen BK233.out 1; have hfz43_2 := blk_frozen BK233.out 2; have hfz43_3 := blk_frozen BK233.out 3; have hfz43_4 := blk_frozen BK233.out 4; have hfz43_5 := blk_frozen BK233.out 5; have hfz43_6 := blk_frozen BK233.out 6; have hfz43_7 := blk_frozen BK233.out 7; have hfz43_8 := blk_frozen BK233.out 8; have hfz43_9 := blk_frozen BK233.out 9; have hfz43_10 := blk_frozen BK233.out 10; have hfz43_11 := blk_frozen BK233.out 11; have hcz44_0 : w41.cell? ⟨gb234, 0, none⟩ = some (.int .i64 a1_0) := (blk_cell BK234.out 0).trans rfl; have hcz44_1 : w41.cell? ⟨gb234, 1, none⟩ = some (.int .i64 a1_1) := (blk_cell BK234.out 1).trans rfl; have hcz44_2 : w41.cell? ⟨gb234, 2, none⟩ = some (.int .i64 a1_2) := (blk_cell BK234.out 2).trans rfl; have hcz44_3 : w41.cell? ⟨gb234, 3, none⟩ = some (.int .i64 a1_3) := (blk_cell BK234.out 3).trans rfl; have hcz44_4 : w41.cell? ⟨gb234, 4, none⟩ = some (.int .i64 a1_4) := (blk_cell BK234.out 4).trans rfl; have hcz44_5 : w41.cell? ⟨gb234, 5, none⟩ = some (.int .i64 a1_5) := (blk_cell BK234.out 5).trans rfl; have hcz44_6 : w41.cell? ⟨gb234, 6, none⟩ = some (.int .i64 a1_6) := (blk_cell BK234.out 6).trans rfl; have hcz44_7 : w41.cell? ⟨gb234, 7, none⟩ = some (.string a1_7) := (blk_cell BK234.out 7).trans rfl; have hcz44_8 : w41.cell? ⟨gb234, 8, none⟩ = some (.int .i64 a1_8) := (blk_cell BK234.out 8).trans rfl; have hcz44_9 : w41.cell? ⟨gb234, 9, none⟩ = some (.int .i64 a1_9) := (blk_cell BK234.out 9).trans rfl; have hcz44_10 : w41.cell? ⟨gb234, 10, none⟩ = some (.slice A1_10 l1_10.length c1_10) := (blk_cell BK234.out 10).trans rfl; have hcz44_11 : w41.cell? ⟨gb234, 11, none⟩ = some (.slice A1_11 l1_11.length c1_11) := (blk_cell BK234.out 11).trans rfl; have hfz44_0 := blk_frozen BK234.out 0; have hfz44_1 := blk_frozen BK234.out 1; have hfz44_2 := blk_frozen BK234.out 2; have hfz44_3 := blk_frozen BK234.out 3; have hfz44_4 := blk_frozen BK234.out 4; have hfz44_5 := blk_frozen BK234.out 5; have hfz44_6 := blk_frozen BK234.out 6; have hfz44_7 := blk_frozen BK234.out 7; have hfz44_8 := blk_frozen BK234.out 8; have hfz44_9 := blk_frozen BK234.out 9; have hfz44_10 := blk_frozen BK234.out 10; have hfz44_11 := blk_frozen BK234.out 11))
    go_ret
    exact ⟨by first | rfl | (simp [errW_none, errW_some] <;> rfl) | (simp [*, errW_none, errW_some] <;> rfl), by repeat (first | (with_reducible first | exact HB.out | apply below_alloc | apply pw_below_drewN | apply below_drew1 | refine below_set ?_ GE233.out | refine below_set ?_ GE234.out) | exact HB.out)⟩
theorem sameRow_l0 (a b : List Ent) (hab : a.length = b.length) (hm : a.length ≤ maxLen) (hs : ∀ x ∈ a, x.f2.f4.length ≤ maxLen) : ∀ d i, i + d = a.length → Ev (fun k => gimbalref04_SameRow.l0 k a b (i : Int)) (eqBy sameEnt (a.drop i) (b.drop i))
  | 0, i, h => by
    refine ⟨1, fun k hk => ?_⟩
    obtain ⟨k, rfl⟩ : ∃ j, k = j + 1 := ⟨k - 1, by omega⟩
    show gimbalref04_SameRow.l0 (k + 1) a b (i : Int) = _
    rw [gimbalref04_SameRow.l0, if_neg (by omega), List.drop_of_length_le (by omega), List.drop_of_length_le (by omega)]
    rfl
  | d + 1, i, h => by
    have ih := sameRow_l0 a b hab hm hs d (i + 1) (by omega)
    have h1 : i < a.length := by omega
    have h2 : i < b.length := by omega
    have e1 : rd_T38 a (i : Int) = a[i] := rd_E_at a i h1
    have e2 : rd_T38 b (i : Int) = b[i] := rd_E_at b i h2
    have e3 : eqBy sameEnt (a.drop i) (b.drop i) = (sameEnt a[i] b[i] && eqBy sameEnt (a.drop (i + 1)) (b.drop (i + 1))) := by
      rw [List.drop_eq_getElem_cons h1, List.drop_eq_getElem_cons h2]
      rfl
    rw [e3]
    refine Ev.step2 (sameEnt_ref a[i] b[i] (hs _ (List.getElem_mem h1))) ih (f := fun k => gimbalref04_SameRow.l0 k a b (i : Int)) (fun k hk1 hk2 => ?_)
    have hk1 : gimbalref04_Same.f k a[i].f0 a[i].f1 a[i].f2.f0 a[i].f2.f1 a[i].f2.f2 a[i].f2.f3 a[i].f2.f4 b[i].f0 b[i].f1 b[i].f2.f0 b[i].f2.f1 b[i].f2.f2 b[i].f2.f3 b[i].f2.f4 = some (sameEnt a[i] b[i]) := hk1
    have hk2 : gimbalref04_SameRow.l0 k a b ((i + 1 : Nat) : Int) = some (eqBy sameEnt (a.drop (i + 1)) (b.drop (i + 1))) := hk2
    show gimbalref04_SameRow.l0 (k + 1) a b (i : Int) = _
    rw [gimbalref04_SameRow.l0, if_pos (by omega), if_pos (by omega), if_pos (by omega), e1, e2, hk1, Option.bind_some, wrap_next a.length i h1 hm, hk2]
    cases sameEnt a[i] b[i] <;> simp
theorem sameRow_ref (a b : List Ent) (hm : a.length ≤ maxLen) (hs : ∀ x ∈ a, x.f2.f4.length ≤ maxLen) : Ev (fun k => gimbalref04_SameRow.f k a b) (eqBy sameEnt a b) := by
  by_cases hl : a.length = b.length
  · obtain ⟨K, h0⟩ := sameRow_l0 a b hl hm hs a.length 0 (by omega)
    rw [List.drop_zero, List.drop_zero] at h0
    refine ⟨K, fun k hk => ?_⟩
    show gimbalref04_SameRow.f k a b = _
    unfold gimbalref04_SameRow.f
    rw [if_pos (by omega)]
    exact h0 k hk
  · refine ⟨0, fun k _ => ?_⟩
    show gimbalref04_SameRow.f k a b = _
    unfold gimbalref04_SameRow.f
    rw [if_neg (by omega), eqBy_len hl]
theorem sameRec_ref (a b : Rec) (hm : a.f5.length ≤ maxLen) (h4 : a.f4.f2.f4.length ≤ maxLen) (hs : ∀ x ∈ a.f5, x.f2.f4.length ≤ maxLen) :
    Ev (fun k => gimbalref14_Same.f k a.f0 a.f1 a.f2 a.f3 a.f4.f0 a.f4.f1 a.f4.f2.f0 a.f4.f2.f1 a.f4.f2.f2 a.f4.f2.f3 a.f4.f2.f4 a.f5 b.f0 b.f1 b.f2 b.f3 b.f4.f0 b.f4.f1 b.f4.f2.f0 b.f4.f2.f1 b.f4.f2.f2 b.f4.f2.f3 b.f4.f2.f4 b.f5) (sameRec a b) := by
  obtain ⟨K, h1⟩ := sameEnt_ref a.f4 b.f4 h4
  obtain ⟨K2, h2⟩ := sameRow_ref a.f5 b.f5 hm hs
  have e : sameRec a b = (decide (a.f0 = b.f0) && (decide (a.f1 = b.f1) && (decide (a.f2 = b.f2) && (decide (a.f3 = b.f3) && (sameEnt a.f4 b.f4 && eqBy sameEnt a.f5 b.f5))))) := by
    rw [Bool.eq_iff_iff, sameRec_iff]
    obtain ⟨a0, a1, a2, a3, a4, a5⟩ := a
    obtain ⟨b0, b1, b2, b3, b4, b5⟩ := b
    simp [sameEnt_iff, eqBy_iff sameEnt_iff]
  rw [e]
  refine ⟨max K K2, fun k hk => ?_⟩
  have g1 : gimbalref04_Same.f k a.f4.f0 a.f4.f1 a.f4.f2.f0 a.f4.f2.f1 a.f4.f2.f2 a.f4.f2.f3 a.f4.f2.f4 b.f4.f0 b.f4.f1 b.f4.f2.f0 b.f4.f2.f1 b.f4.f2.f2 b.f4.f2.f3 b.f4.f2.f4 = some (sameEnt a.f4 b.f4) := h1 k (by omega)
  have g2 : gimbalref04_SameRow.f k a.f5 b.f5 = some (eqBy sameEnt a.f5 b.f5) := h2 k (by omega)
  show gimbalref14_Same.f k _ _ _ _ _ _ _ _ _ _ _ _ _ _ _ _ _ _ _ _ _ _ _ _ = _
  unfold gimbalref14_Same.f
  rw [g1, g2]
  by_cases c0 : a.f0 = b.f0
  · by_cases c1 : a.f1 = b.f1
    · by_cases c2 : a.f2 = b.f2
      · by_cases c3 : a.f3 = b.f3
        · cases sameEnt a.f4 b.f4 <;> simp [c0, c1, c2, c3]
        · simp [c0, c1, c2, c3]
      · simp [c0, c1, c2]
    · simp [c0, c1]
  · simp [c0]
end Go.Proofs.YtmeblifbkhpdnaaDoor.K
namespace Go.Proofs.YtmeblifbkhpdnaaDoor.K
set_option linter.unusedVariables false
set_option linter.unusedSimpArgs false
open Go.RowKit Go.Proofs.YtmeblifbkhpdnaaDoorW.PrintWords Go.Proofs.YtmeblifbkhpdnaaDoorW.PrintLast Go.Proofs.YtmeblifbkhpdnaaDoorW.PrintMore
attribute [local go_sem] max2_int min2_int max_two min_two max_three min_three max_four min_four
def gimbalref14_number.f (a0 : Int) : Option (Bool) := if a0 ≥ 0 then (some (decide (a0 ≤ 9007199254740991))) else (some false)
set_option maxHeartbeats 8000000 in
set_option maxRecDepth 100000 in
theorem gimbalref14_number.calls (a0 : Int) (r : Bool) (w : World) (h : gimbalref14_number.f a0 = some r) :
    Calls Tryd.prog 45 #[.int .i64 a0] w fun e w' => e = .returned (.bool r) ∧ Drawn0 w w' := by
  have H : (if a0 ≥ 0 then (some (decide (a0 ≤ 9007199254740991))) else (some false)) = some r := h
  clear h
  by_cases c2 : a0 ≥ 0
  · rw [if_pos c2] at H
    have c2b0 : decide (0 ≤ a0) = true := decide_eq_true c2
    clear c2
    obtain rfl := Option.some.inj H
    go_enter Tryd.func45, Tryd.ntmps45
    go_wp2
    go_ret
    exact ⟨by first | rfl | (simp; done) | (simp [*]; done), by repeat (first | exact Drawn0.refl _ | apply Drawn0.step)⟩
  · rw [if_neg c2] at H
    have c2b0 : decide (0 ≤ a0) = false := decide_eq_false c2
    clear c2
    obtain rfl := Option.some.inj H
    go_enter Tryd.func45, Tryd.ntmps45
    go_wp2
    go_ret
    exact ⟨by first | rfl | (simp; done) | (simp [*]; done), by repeat (first | exact Drawn0.refl _ | apply Drawn0.step)⟩
def gimbalref14_hasView.f (a0 : Int) : Option (Bool) := if a0 = 1 then (some true) else (some (a0 == 3))
set_option maxHeartbeats 8000000 in
set_option maxRecDepth 100000 in
theorem gimbalref14_hasView.calls (a0 : Int) (r : Bool) (w : World) (h : gimbalref14_hasView.f a0 = some r) :
    Calls Tryd.prog 47 #[.int .i64 a0] w fun e w' => e = .returned (.bool r) ∧ Drawn0 w w' := by
  have H : (if a0 = 1 then (some true) else (some (a0 == 3))) = some r := h
  clear h
  by_cases c2 : a0 = 1
  · rw [if_pos c2] at H
    have c2b0 : (a0 == 1) = true := beq_iff_eq.mpr c2
    have c2b1 : (a0 != 1) = false := bne_eq_false_iff_eq.mpr c2
    clear c2
    obtain rfl := Option.some.inj H
    go_enter Tryd.func47, Tryd.ntmps47
    go_wp2
    go_ret
    exact ⟨by first | rfl | (simp; done) | (simp [*]; done), by repeat (first | exact Drawn0.refl _ | apply Drawn0.step)⟩
  · rw [if_neg c2] at H
    have c2b0 : (a0 == 1) = false := beq_eq_false_iff_ne.mpr c2
    have c2b1 : (a0 != 1) = true := bne_iff_ne.mpr c2
    obtain rfl := Option.some.inj H
    go_enter Tryd.func47, Tryd.ntmps47
    go_wp2
    go_ret
    exact ⟨by first | rfl | (simp; done) | (simp [*]; done), by repeat (first | exact Drawn0.refl _ | apply Drawn0.step)⟩
def gimbalref14_hasOp.f (a0 : Int) : Option (Bool) := if a0 = 2 then (some true) else (some (a0 == 3))
set_option maxHeartbeats 8000000 in
set_option maxRecDepth 100000 in
theorem gimbalref14_hasOp.calls (a0 : Int) (r : Bool) (w : World) (h : gimbalref14_hasOp.f a0 = some r) :
    Calls Tryd.prog 48 #[.int .i64 a0] w fun e w' => e = .returned (.bool r) ∧ Drawn0 w w' := by
  have H : (if a0 = 2 then (some true) else (some (a0 == 3))) = some r := h
  clear h
  by_cases c2 : a0 = 2
  · rw [if_pos c2] at H
    have c2b0 : (a0 == 2) = true := beq_iff_eq.mpr c2
    have c2b1 : (a0 != 2) = false := bne_eq_false_iff_eq.mpr c2
    clear c2
    obtain rfl := Option.some.inj H
    go_enter Tryd.func48, Tryd.ntmps48
    go_wp2
    go_ret
    exact ⟨by first | rfl | (simp; done) | (simp [*]; done), by repeat (first | exact Drawn0.refl _ | apply Drawn0.step)⟩
  · rw [if_neg c2] at H
    have c2b0 : (a0 == 2) = false := beq_eq_false_iff_ne.mpr c2
    have c2b1 : (a0 != 2) = true := bne_iff_ne.mpr c2
    obtain rfl := Option.some.inj H
    go_enter Tryd.func48, Tryd.ntmps48
    go_wp2
    go_ret
    exact ⟨by first | rfl | (simp; done) | (simp [*]; done), by repeat (first | exact Drawn0.refl _ | apply Drawn0.step)⟩
mutual
def gimbalref14_entries.j0 : Nat → Bool → Int → Int → Int → Int → Int → Int → Int → ByteArray → Int → Int → List (S118) → List (S38) → Option (Bool)
  | 0, _, _, _, _, _, _, _, _, _, _, _, _, _ => none
  | k + 1, x3, x158000, x158001, x158002, x158003, x158004, x158005, x158006, x158007, x158008, x158009, x158010, x158011 => if x158000 = 3 then (gimbalref14_entries.l0 k x3 0 x158000 x158001 x158002 x158003 x158004 x158005 x158006 x158007 x158008 x158009 x158010 x158011) else (if x3 = true then (some ((x158011.length : Int) == 0)) else (some false))
def gimbalref14_entries.l0 : Nat → Bool → Int → Int → Int → Int → Int → Int → Int → Int → ByteArray → Int → Int → List (S118) → List (S38) → Option (Bool)
  | 0, _, _, _, _, _, _, _, _, _, _, _, _, _, _ => none
  | k + 1, x3, x4, x158000, x158001, x158002, x158003, x158004, x158005, x158006, x158007, x158008, x158009, x158010, x158011 => if x4 < (x158011.length : Int) then (if x3 = true then (if 0 ≤ x4 then ((gimbalref04_Check.f k ((rd_T38 x158011 x4).f0) ((rd_T38 x158011 x4).f1) ((rd_T38 x158011 x4).f2.f0) ((rd_T38 x158011 x4).f2.f1) ((rd_T38 x158011 x4).f2.f2) ((rd_T38 x158011 x4).f2.f3) ((rd_T38 x158011 x4).f2.f4)).bind fun t161 => (gimbalref14_entries.l0 k (t161 == 0) (wrap64 (x4 + 1)) x158000 x158001 x158002 x158003 x158004 x158005 x158006 x158007 x158008 x158009 x158010 x158011)) else (none)) else (gimbalref14_entries.l0 k false (wrap64 (x4 + 1)) x158000 x158001 x158002 x158003 x158004 x158005 x158006 x158007 x158008 x158009 x158010 x158011)) else (if x3 = true then (some (decide ((x158011.length : Int) ≤ 24))) else (some false))
end
def gimbalref14_entries.f (k : Nat) (a0_0 : Int) (a0_1 : Int) (a0_2 : Int) (a0_3 : Int) (a0_4 : Int) (a0_5 : Int) (a0_6 : Int) (a0_7 : ByteArray) (a0_8 : Int) (a0_9 : Int) (l0_10 : List (S118)) (l0_11 : List (S38)) : Option (Bool) := (gimbalref04_Same.f k a0_4 a0_5 a0_6 a0_7 a0_8 a0_9 l0_10 0 0 0 (⟨#[]⟩ : ByteArray) 0 0 ([] : List (S118))).bind fun t158 => (if a0_0 = 2 then (if a0_3 ≥ 1 then ((gimbalref04_Check.f k a0_4 a0_5 a0_6 a0_7 a0_8 a0_9 l0_10).bind fun t159 => (gimbalref14_entries.j0 k (t159 == 0) a0_0 a0_1 a0_2 a0_3 a0_4 a0_5 a0_6 a0_7 a0_8 a0_9 l0_10 l0_11)) else (gimbalref14_entries.j0 k false a0_0 a0_1 a0_2 a0_3 a0_4 a0_5 a0_6 a0_7 a0_8 a0_9 l0_10 l0_11)) else (gimbalref14_entries.j0 k t158 a0_0 a0_1 a0_2 a0_3 a0_4 a0_5 a0_6 a0_7 a0_8 a0_9 l0_10 l0_11))
set_option maxHeartbeats 8000000 in
set_option maxRecDepth 100000 in
theorem gimbalref14_entries.calls (k : Nat) (a0_0 : Int) (a0_1 : Int) (a0_2 : Int) (a0_3 : Int) (a0_4 : Int) (a0_5 : Int) (a0_6 : Int) (a0_7 : ByteArray) (a0_8 : Int) (a0_9 : Int) (A0_10 : Option Addr) (c0_10 : Nat) (l0_10 : List (S118)) (A0_11 : Option Addr) (c0_11 : Nat) (l0_11 : List (S38)) (r : Bool) (w : World) (hr0_10 : Kd.C k118 w A0_10 l0_10.length l0_10) (hc0_10 : l0_10.length ≤ c0_10) (hr0_11 : Kd.C k38 w A0_11 l0_11.length l0_11) (hc0_11 : l0_11.length ≤ c0_11) (h : gimbalref14_entries.f k a0_0 a0_1 a0_2 a0_3 a0_4 a0_5 a0_6 a0_7 a0_8 a0_9 l0_10 l0_11 = some r) :
    Calls Tryd.prog 46 #[.agg #[.int .i64 a0_0, .int .i64 a0_1, .int .i64 a0_2, .int .i64 a0_3, .int .i64 a0_4, .int .i64 a0_5, .int .i64 a0_6, .string a0_7, .int .i64 a0_8, .int .i64 a0_9, .slice A0_10 l0_10.length c0_10, .slice A0_11 l0_11.length c0_11]] w fun e w' => e = .returned (.bool r) ∧ Below w.heap.size w w' := by
  have hu41 := Tryd.underlying41
  have hu38 := Tryd.underlying38
  have HR0_10 := Aside0.mk hr0_10
  have HC0_10 := Aside0.mk hc0_10
  clear hr0_10 hc0_10
  have HR0_11 := Aside0.mk hr0_11
  have HC0_11 := Aside0.mk hc0_11
  clear hr0_11 hc0_11
  have HB := Aside0.mk (Below.refl w.heap.size w)
  have H : ((gimbalref04_Same.f k a0_4 a0_5 a0_6 a0_7 a0_8 a0_9 l0_10 0 0 0 (⟨#[]⟩ : ByteArray) 0 0 ([] : List (S118))).bind fun t158 => (if a0_0 = 2 then (if a0_3 ≥ 1 then ((gimbalref04_Check.f k a0_4 a0_5 a0_6 a0_7 a0_8 a0_9 l0_10).bind fun t159 => (gimbalref14_entries.j0 k (t159 == 0) a0_0 a0_1 a0_2 a0_3 a0_4 a0_5 a0_6 a0_7 a0_8 a0_9 l0_10 l0_11)) else (gimbalref14_entries.j0 k false a0_0 a0_1 a0_2 a0_3 a0_4 a0_5 a0_6 a0_7 a0_8 a0_9 l0_10 l0_11)) else (gimbalref14_entries.j0 k t158 a0_0 a0_1 a0_2 a0_3 a0_4 a0_5 a0_6 a0_7 a0_8 a0_9 l0_10 l0_11))) = some r := h
  clear h
  replace H := Option.bind_eq_some_iff.mp H
  obtain ⟨t158, A20, H⟩ := H
  replace H : (if a0_0 = 2 then (if a0_3 ≥ 1 then ((gimbalref04_Check.f k a0_4 a0_5 a0_6 a0_7 a0_8 a0_9 l0_10).bind fun t159 => (gimbalref14_entries.j0 k (t159 == 0) a0_0 a0_1 a0_2 a0_3 a0_4 a0_5 a0_6 a0_7 a0_8 a0_9 l0_10 l0_11)) else (gimbalref14_entries.j0 k false a0_0 a0_1 a0_2 a0_3 a0_4 a0_5 a0_6 a0_7 a0_8 a0_9 l0_10 l0_11)) else (gimbalref14_entries.j0 k t158 a0_0 a0_1 a0_2 a0_3 a0_4 a0_5 a0_6 a0_7 a0_8 a0_9 l0_10 l0_11)) = some r := H
  have A2 := Aside0.mk A20
  clear A20
  have HC3 := Aside0.mk H
  clear H
  go_enter Tryd.func46, Tryd.ntmps46
  go_upto_if 11 with (first | ((with_reducible refine gate_dst (N := 1) rfl ?_); (try (refine gate_guard (by rfl) ?_; dsimp only)); refine box_event ?hg (N := 1) ?hd (cs := #[.int .i64 a0_0, .int .i64 a0_1, .int .i64 a0_2, .int .i64 a0_3, .int .i64 a0_4, .int .i64 a0_5, .int .i64 a0_6, .string a0_7, .int .i64 a0_8, .int .i64 a0_9, .slice A0_10 l0_10.length c0_10, .slice A0_11 l0_11.length c0_11]) (t := 41) ?hr ?_; (case hd => rfl); (case hg => rfl); (case hr => first | (go_simp; done) | (go_simp; rfl)); intro gb157 hg w4 hbox hb; have n0_ := Aside0.mk (below_step (by repeat (first | (with_reducible first | exact HB.out | apply below_alloc | apply pw_below_drewN | apply below_drew1) | exact HB.out)) hb); have n1_ := Aside0.mk (hbox); have n2_ := Aside0.mk ((by rw [hg]; exact (below_size (by repeat (first | (with_reducible first | exact HB.out | apply below_alloc | apply pw_below_drewN | apply below_drew1) | exact HB.out))) : w.heap.size ≤ gb157)); have n3_ := Aside0.mk ((by rw [hg]; exact (below_size (by repeat (first | (with_reducible first | exact HB.out | apply below_alloc | apply pw_below_drewN | apply below_drew1) | exact HB.out))) : w.heap.size ≤ gb157)); clear HB; have HB := n0_; have BK157 := n1_; have GW157 := n2_; have GE157 := n3_; clear n0_ n1_ n2_ n3_; clear hb hbox hg; have hcz5_0 : w4.cell? ⟨gb157, 0, none⟩ = some (.int .i64 a0_0) := (blk_cell BK157.out 0).trans rfl; have hcz5_1 : w4.cell? ⟨gb157, 1, none⟩ = some (.int .i64 a0_1) := (blk_cell BK157.out 1).trans rfl; have hcz5_2 : w4.cell? ⟨gb157, 2, none⟩ = some (.int .i64 a0_2) := (blk_cell BK157.out 2).trans rfl; have hcz5_3 : w4.cell? ⟨gb157, 3, none⟩ = some (.int .i64 a0_3) := (blk_cell BK157.out 3).trans rfl; have hcz5_4 : w4.cell? ⟨gb157, 4, none⟩ = some (.int .i64 a0_4) := (blk_cell BK157.out 4).trans rfl; have hcz5_5 : w4.cell? ⟨gb157, 5, none⟩ = some (.int .i64 a0_5) := (blk_cell BK157.out 5).trans rfl; have hcz5_6 : w4.cell? ⟨gb157, 6, none⟩ = some (.int .i64 a0_6) := (blk_cell BK157.out 6).trans rfl; have hcz5_7 : w4.cell? ⟨gb157, 7, none⟩ = some (.string a0_7) := (blk_cell BK157.out 7).trans rfl; have hcz5_8 : w4.cell? ⟨gb157, 8, none⟩ = some (.int .i64 a0_8) := (blk_cell BK157.out 8).trans rfl; have hcz5_9 : w4.cell? ⟨gb157, 9, none⟩ = some (.int .i64 a0_9) := (blk_cell BK157.out 9).trans rfl; have hcz5_10 : w4.cell? ⟨gb157, 10, none⟩ = some (.slice A0_10 l0_10.length c0_10) := (blk_cell BK157.out 10).trans rfl; have hcz5_11 : w4.cell? ⟨gb157, 11, none⟩ = some (.slice A0_11 l0_11.length c0_11) := (blk_cell BK157.out 11).trans rfl; have hfz5_0 := blk_frozen BK157.out 0; have hfz5_1 := blk_frozen BK157.out 1; have hfz5_2 := blk_frozen BK157.out 2; have hfz5_3 := blk_frozen BK157.out 3; have hfz5_4 := blk_frozen BK157.out 4; have hfz5_5 := blk_frozen BK157.out 5; have hfz5_6 := blk_frozen BK157.out 6; have hfz5_7 := blk_frozen BK157.out 7; have hfz5_8 := blk_frozen BK157.out 8; have hfz5_9 := blk_frozen BK157.out 9; have hfz5_10 := blk_frozen BK157.out 10; have hfz5_11 := blk_frozen BK157.out 11) | ((with_reducible refine gate_callee (f := 50) rfl ?_); refine goesL_ (some 8) rfl rfl Tryd.func50 (by kernel_rfl) rfl #[.agg #[.int .i64 a0_4, .int .i64 a0_5, .int .i64 a0_6, .string a0_7, .int .i64 a0_8, .int .i64 a0_9, .slice A0_10 l0_10.length c0_10], .agg #[.int .i64 0, .int .i64 0, .int .i64 0, .string (⟨#[]⟩ : ByteArray), .int .i64 0, .int .i64 0, .slice none 0 0]] rfl (by (try simp only [List.map_toArray, List.map_cons, List.map_nil]); first | done | rfl | (simp only [List.length_drop, List.length_take]; rfl)) ?_; (refine (gimbalref04_Same.calls k a0_4 a0_5 a0_6 a0_7 a0_8 a0_9 _ _ l0_10 0 0 0 (⟨#[]⟩ : ByteArray) 0 0 _ _ ([] : List (S118)) t158 _ ?side1 ?side2 ?side3 ?side4 A2.out).mono ?_); (case side1 => repeat (first | exact (Kd.C_below HR0_10.out HB.out) | (with_reducible refine Kd.C_alloc ?_ _) | (with_reducible refine Kd.C_drewN ?_ _) | (with_reducible refine Kd.C_drew ?_))); (case side2 => exact HC0_10.out); (case side3 => exact Kd.C_nil _ _); (case side4 => exact Nat.le_refl _); rintro e w6 ⟨rfl, hb⟩; refine ⟨_, rfl, ?_⟩; have n0_ := Aside0.mk (blk_below (g := gb157) (o := .cells #[.int .i64 a0_0, .int .i64 a0_1, .int .i64 a0_2, .int .i64 a0_3, .int .i64 a0_4, .int .i64 a0_5, .int .i64 a0_6, .string a0_7, .int .i64 a0_8, .int .i64 a0_9, .slice A0_10 l0_10.length c0_10, .slice A0_11 l0_11.length c0_11] 41 (0, 0)) (by (with_reducible repeat (first | refine blk_drewN ?_ _ | refine blk_drew ?_ | refine blk_alloc ?_ _)); exact BK157.out) hb); have n1_ := Aside0.mk (below_step (by repeat (first | (with_reducible first | exact HB.out | apply below_alloc | apply pw_below_drewN | apply below_drew1 | refine below_set ?_ GE157.out) | exact HB.out)) hb); clear BK157; clear HB; have BK157 := n0_; have HB := n1_; clear n0_ n1_; (try clear hb); (try clear hb2); (try clear hk); (try clear hi); have hcz7_0 : w6.cell? ⟨gb157, 0, none⟩ = some (.int .i64 a0_0) := (blk_cell BK157.out 0).trans rfl; have hcz7_1 : w6.cell? ⟨gb157, 1, none⟩ = some (.int .i64 a0_1) := (blk_cell BK157.out 1).trans rfl; have hcz7_2 : w6.cell? ⟨gb157, 2, none⟩ = some (.int .i64 a0_2) := (blk_cell BK157.out 2).trans rfl; have hcz7_3 : w6.cell? ⟨gb157, 3, none⟩ = some (.int .i64 a0_3) := (blk_cell BK157.out 3).trans rfl; have hcz7_4 : w6.cell? ⟨gb157, 4, none⟩ = some (.int .i64 a0_4) := (blk_cell BK157.out 4).trans rfl; have hcz7_5 : w6.cell? ⟨gb157, 5, none⟩ = some (.int .i64 a0_5) := (blk_cell BK157.out 5).trans rfl; have hcz7_6 : w6.cell? ⟨gb157, 6, none⟩ = some (.int .i64 a0_6) := (blk_cell BK157.out 6).trans rfl; have hcz7_7 : w6.cell? ⟨gb157, 7, none⟩ = some (.string a0_7) := (blk_cell BK157.out 7).trans rfl; have hcz7_8 : w6.cell? ⟨gb157, 8, none⟩ = some (.int .i64 a0_8) := (blk_cell BK157.out 8).trans rfl; have hcz7_9 : w6.cell? ⟨gb157, 9, none⟩ = some (.int .i64 a0_9) := (blk_cell BK157.out 9).trans rfl; have hcz7_10 : w6.cell? ⟨gb157, 10, none⟩ = some (.slice A0_10 l0_10.length c0_10) := (blk_cell BK157.out 10).trans rfl; have hcz7_11 : w6.cell? ⟨gb157, 11, none⟩ = some (.slice A0_11 l0_11.length c0_11) := (blk_cell BK157.out 11).trans rfl; have hfz7_0 := blk_frozen BK157.out 0; have hfz7_1 := blk_frozen BK157.out 1; have hfz7_2 := blk_frozen BK157.out 2; have hfz7_3 := blk_frozen BK157.out 3; have hfz7_4 := blk_frozen BK157.out 4; have hfz7_5 := blk_frozen BK157.out 5; have hfz7_6 := blk_frozen BK157.out 6; have hfz7_7 := blk_frozen BK157.out 7; have hfz7_8 := blk_frozen BK157.out 8; have hfz7_9 := blk_frozen BK157.out 9; have hfz7_10 := blk_frozen BK157.out 10; have hfz7_11 := blk_frozen BK157.out 11))
  (try simp only [Act.put, List.setIfInBounds_toArray, List.set_cons_zero, List.set_cons_succ])
  go_cut [3] (fun v3 wc => ∃ (kq : Nat) (x3_2 : Bool), v3 = .bool x3_2 ∧ Aside0 (gimbalref14_entries.j0 kq x3_2 a0_0 a0_1 a0_2 a0_3 a0_4 a0_5 a0_6 a0_7 a0_8 a0_9 l0_10 l0_11 = some r) ∧ Aside0 (kq ≤ k) ∧ Aside0 (wc.heap[gb157]? = some (.cells #[.int .i64 a0_0, .int .i64 a0_1, .int .i64 a0_2, .int .i64 a0_3, .int .i64 a0_4, .int .i64 a0_5, .int .i64 a0_6, .string a0_7, .int .i64 a0_8, .int .i64 a0_9, (.slice A0_10 l0_10.length c0_10), (.slice A0_11 l0_11.length c0_11)] 41 (0, 0))) ∧ Aside0 (Below w.heap.size w wc))
  case first =>
    have H := HC3.out
    clear HC3
    by_cases c8 : a0_0 = 2
    · rw [if_pos c8] at H
      have c8b0 : (a0_0 == 2) = true := beq_iff_eq.mpr c8
      have c8b1 : (a0_0 != 2) = false := bne_eq_false_iff_eq.mpr c8
      clear c8
      (first | rw [c8b0] | (simp only [i64_w, i32_w]; rw [c8b0]) | skip)
      by_cases c9 : a0_3 ≥ 1
      · rw [if_pos c9] at H
        have c9b0 : decide (1 ≤ a0_3) = true := decide_eq_true c9
        clear c9
        replace H := Option.bind_eq_some_iff.mp H
        obtain ⟨t159, A100, H⟩ := H
        replace H : (gimbalref14_entries.j0 k (t159 == 0) a0_0 a0_1 a0_2 a0_3 a0_4 a0_5 a0_6 a0_7 a0_8 a0_9 l0_10 l0_11) = some r := H
        have A10 := Aside0.mk A100
        clear A100
        have H' := Aside0.mk H
        clear H
        have hcz11_0 : w6.cell? ⟨gb157, 0, none⟩ = some (.int .i64 a0_0) := (blk_cell BK157.out 0).trans rfl
        have hcz11_1 : w6.cell? ⟨gb157, 1, none⟩ = some (.int .i64 a0_1) := (blk_cell BK157.out 1).trans rfl
        have hcz11_2 : w6.cell? ⟨gb157, 2, none⟩ = some (.int .i64 a0_2) := (blk_cell BK157.out 2).trans rfl
        have hcz11_3 : w6.cell? ⟨gb157, 3, none⟩ = some (.int .i64 a0_3) := (blk_cell BK157.out 3).trans rfl
        have hcz11_4 : w6.cell? ⟨gb157, 4, none⟩ = some (.int .i64 a0_4) := (blk_cell BK157.out 4).trans rfl
        have hcz11_5 : w6.cell? ⟨gb157, 5, none⟩ = some (.int .i64 a0_5) := (blk_cell BK157.out 5).trans rfl
        have hcz11_6 : w6.cell? ⟨gb157, 6, none⟩ = some (.int .i64 a0_6) := (blk_cell BK157.out 6).trans rfl
        have hcz11_7 : w6.cell? ⟨gb157, 7, none⟩ = some (.string a0_7) := (blk_cell BK157.out 7).trans rfl
        have hcz11_8 : w6.cell? ⟨gb157, 8, none⟩ = some (.int .i64 a0_8) := (blk_cell BK157.out 8).trans rfl
        have hcz11_9 : w6.cell? ⟨gb157, 9, none⟩ = some (.int .i64 a0_9) := (blk_cell BK157.out 9).trans rfl
        have hcz11_10 : w6.cell? ⟨gb157, 10, none⟩ = some (.slice A0_10 l0_10.length c0_10) := (blk_cell BK157.out 10).trans rfl
        have hcz11_11 : w6.cell? ⟨gb157, 11, none⟩ = some (.slice A0_11 l0_11.length c0_11) := (blk_cell BK157.out 11).trans rfl
        have hfz11_0 := blk_frozen BK157.out 0
        have hfz11_1 := blk_frozen BK157.out 1
        have hfz11_2 := blk_frozen BK157.out 2
        have hfz11_3 := blk_frozen BK157.out 3
        have hfz11_4 := blk_frozen BK157.out 4
        have hfz11_5 := blk_frozen BK157.out 5
        have hfz11_6 := blk_frozen BK157.out 6
        have hfz11_7 := blk_frozen BK157.out 7
        have hfz11_8 := blk_frozen BK157.out 8
        have hfz11_9 := blk_frozen BK157.out 9
        have hfz11_10 := blk_frozen BK157.out 10
        have hfz11_11 := blk_frozen BK157.out 11
        go_wp2_with (first | (go_at_call 84; (with_reducible refine (gimbalref04_Check.calls k a0_4 a0_5 a0_6 a0_7 a0_8 a0_9 _ _ l0_10 t159 _ ?side1 ?side2 A10.out).mono ?_); (case side1 => repeat (first | exact (Kd.C_below HR0_10.out HB.out) | (with_reducible refine Kd.C_alloc ?_ _) | (with_reducible refine Kd.C_drewN ?_ _) | (with_reducible refine Kd.C_drew ?_))); (case side2 => exact HC0_10.out); rintro e w12 ⟨rfl, hb⟩; have n0_ := Aside0.mk (blk_below (g := gb157) (o := .cells #[.int .i64 a0_0, .int .i64 a0_1, .int .i64 a0_2, .int .i64 a0_3, .int .i64 a0_4, .int .i64 a0_5, .int .i64 a0_6, .string a0_7, .int .i64 a0_8, .int .i64 a0_9, .slice A0_10 l0_10.length c0_10, .slice A0_11 l0_11.length c0_11] 41 (0, 0)) (by (with_reducible repeat (first | refine blk_drewN ?_ _ | refine blk_drew ?_ | refine blk_alloc ?_ _)); exact BK157.out) hb); have n1_ := Aside0.mk (below_step (by repeat (first | (with_reducible first | exact HB.out | apply below_alloc | apply pw_below_drewN | apply below_drew1 | refine below_set ?_ GE157.out) | exact HB.out)) hb); clear BK157; clear HB; have BK157 := n0_; have HB := n1_; clear n0_ n1_; (try clear hb); (try clear hb2); (try clear hk); (try clear hi)))
        go_meet
        case rel => exact ⟨_, ((t159 == 0)), (by first | rfl | (simp; done) | (simp [*]; done)), H', ⟨by first | omega | exact Nat.le_refl _⟩, ⟨by (with_reducible repeat (first | refine blk_drewN ?_ _ | refine blk_drew ?_ | refine blk_alloc ?_ _)); exact BK157.out⟩, ⟨by repeat (first | (with_reducible first | exact HB.out | apply below_alloc | apply pw_below_drewN | apply below_drew1 | refine below_set ?_ GE157.out) | exact HB.out)⟩⟩
      · rw [if_neg c9] at H
        have c9b0 : decide (1 ≤ a0_3) = false := decide_eq_false c9
        clear c9
        have H' := Aside0.mk H
        clear H
        have hcz13_0 : w6.cell? ⟨gb157, 0, none⟩ = some (.int .i64 a0_0) := (blk_cell BK157.out 0).trans rfl
        have hcz13_1 : w6.cell? ⟨gb157, 1, none⟩ = some (.int .i64 a0_1) := (blk_cell BK157.out 1).trans rfl
        have hcz13_2 : w6.cell? ⟨gb157, 2, none⟩ = some (.int .i64 a0_2) := (blk_cell BK157.out 2).trans rfl
        have hcz13_3 : w6.cell? ⟨gb157, 3, none⟩ = some (.int .i64 a0_3) := (blk_cell BK157.out 3).trans rfl
        have hcz13_4 : w6.cell? ⟨gb157, 4, none⟩ = some (.int .i64 a0_4) := (blk_cell BK157.out 4).trans rfl
        have hcz13_5 : w6.cell? ⟨gb157, 5, none⟩ = some (.int .i64 a0_5) := (blk_cell BK157.out 5).trans rfl
        have hcz13_6 : w6.cell? ⟨gb157, 6, none⟩ = some (.int .i64 a0_6) := (blk_cell BK157.out 6).trans rfl
        have hcz13_7 : w6.cell? ⟨gb157, 7, none⟩ = some (.string a0_7) := (blk_cell BK157.out 7).trans rfl
        have hcz13_8 : w6.cell? ⟨gb157, 8, none⟩ = some (.int .i64 a0_8) := (blk_cell BK157.out 8).trans rfl
        have hcz13_9 : w6.cell? ⟨gb157, 9, none⟩ = some (.int .i64 a0_9) := (blk_cell BK157.out 9).trans rfl
        have hcz13_10 : w6.cell? ⟨gb157, 10, none⟩ = some (.slice A0_10 l0_10.length c0_10) := (blk_cell BK157.out 10).trans rfl
        have hcz13_11 : w6.cell? ⟨gb157, 11, none⟩ = some (.slice A0_11 l0_11.length c0_11) := (blk_cell BK157.out 11).trans rfl
        have hfz13_0 := blk_frozen BK157.out 0
        have hfz13_1 := blk_frozen BK157.out 1
        have hfz13_2 := blk_frozen BK157.out 2
        have hfz13_3 := blk_frozen BK157.out 3
        have hfz13_4 := blk_frozen BK157.out 4
        have hfz13_5 := blk_frozen BK157.out 5
        have hfz13_6 := blk_frozen BK157.out 6
        have hfz13_7 := blk_frozen BK157.out 7
        have hfz13_8 := blk_frozen BK157.out 8
        have hfz13_9 := blk_frozen BK157.out 9
        have hfz13_10 := blk_frozen BK157.out 10
        have hfz13_11 := blk_frozen BK157.out 11
        go_wp2
        go_meet
        case rel => exact ⟨_, (false), (by first | rfl | (simp; done) | (simp [*]; done)), H', ⟨by first | omega | exact Nat.le_refl _⟩, ⟨by (with_reducible repeat (first | refine blk_drewN ?_ _ | refine blk_drew ?_ | refine blk_alloc ?_ _)); exact BK157.out⟩, ⟨by repeat (first | (with_reducible first | exact HB.out | apply below_alloc | apply pw_below_drewN | apply below_drew1 | refine below_set ?_ GE157.out) | exact HB.out)⟩⟩
    · rw [if_neg c8] at H
      have c8b0 : (a0_0 == 2) = false := beq_eq_false_iff_ne.mpr c8
      have c8b1 : (a0_0 != 2) = true := bne_iff_ne.mpr c8
      (first | rw [c8b0] | (simp only [i64_w, i32_w]; rw [c8b0]) | skip)
      have H' := Aside0.mk H
      clear H
      go_wp2
      go_meet
      case rel => exact ⟨_, (t158), (by first | rfl | (simp; done) | (simp [*]; done)), H', ⟨by first | omega | exact Nat.le_refl _⟩, ⟨by (with_reducible repeat (first | refine blk_drewN ?_ _ | refine blk_drew ?_ | refine blk_alloc ?_ _)); exact BK157.out⟩, ⟨by repeat (first | (with_reducible first | exact HB.out | apply below_alloc | apply pw_below_drewN | apply below_drew1 | refine below_set ?_ GE157.out) | exact HB.out)⟩⟩
  case rest =>
    clear HC3
    try clear p2
    try clear c4
    try clear c5
    try clear c8
    try clear c8b0
    try clear c8b1
    try clear c9
    try clear c9b0
    try clear hcz11_0
    try clear hcz11_1
    try clear hcz11_10
    try clear hcz11_11
    try clear hcz11_2
    try clear hcz11_3
    try clear hcz11_4
    try clear hcz11_5
    try clear hcz11_6
    try clear hcz11_7
    try clear hcz11_8
    try clear hcz11_9
    try clear hcz13_0
    try clear hcz13_1
    try clear hcz13_10
    try clear hcz13_11
    try clear hcz13_2
    try clear hcz13_3
    try clear hcz13_4
    try clear hcz13_5
    try clear hcz13_6
    try clear hcz13_7
    try clear hcz13_8
    try clear hcz13_9
    try clear hcz5_0
    try clear hcz5_1
    try clear hcz5_10
    try clear hcz5_11
    try clear hcz5_2
    try clear hcz5_3
    try clear hcz5_4
    try clear hcz5_5
    try clear hcz5_6
    try clear hcz5_7
    try clear hcz5_8
    try clear hcz5_9
    try clear hcz7_0
    try clear hcz7_1
    try clear hcz7_10
    try clear hcz7_11
    try clear hcz7_2
    try clear hcz7_3
    try clear hcz7_4
    try clear hcz7_5
    try clear hcz7_6
    try clear hcz7_7
    try clear hcz7_8
    try clear hcz7_9
    try clear hfz11_0
    try clear hfz11_1
    try clear hfz11_10
    try clear hfz11_11
    try clear hfz11_2
    try clear hfz11_3
    try clear hfz11_4
    try clear hfz11_5
    try clear hfz11_6
    try clear hfz11_7
    try clear hfz11_8
    try clear hfz11_9
    try clear hfz13_0
    try clear hfz13_1
    try clear hfz13_10
    try clear hfz13_11
    try clear hfz13_2
    try clear hfz13_3
    try clear hfz13_4
    try clear hfz13_5
    try clear hfz13_6
    try clear hfz13_7
    try clear hfz13_8
    try clear hfz13_9
    try clear hfz5_0
    try clear hfz5_1
    try clear hfz5_10
    try clear hfz5_11
    try clear hfz5_2
    try clear hfz5_3
    try clear hfz5_4
    try clear hfz5_5
    try clear hfz5_6
    try clear hfz5_7
    try clear hfz5_8
    try clear hfz5_9
    try clear hfz7_0
    try clear hfz7_1
    try clear hfz7_10
    try clear hfz7_11
    try clear hfz7_2
    try clear hfz7_3
    try clear hfz7_4
    try clear hfz7_5
    try clear hfz7_6
    try clear hfz7_7
    try clear hfz7_8
    try clear hfz7_9
    obtain ⟨kq, x3_2, rfl, HA, HJ2, BK157, HB⟩ := hcut
    cases kq with
    | zero => exact absurd HA.out (by simp [gimbalref14_entries.j0])
    | succ kj2 =>
      have H := HA.out
      clear HA
      simp only [gimbalref14_entries.j0] at H
      by_cases c14 : a0_0 = 3
      · rw [if_pos c14] at H
        have c14b0 : (a0_0 == 3) = true := beq_iff_eq.mpr c14
        have c14b1 : (a0_0 != 3) = false := bne_eq_false_iff_eq.mpr c14
        clear c14
        have H' := Aside0.mk H
        clear H
        have hcz15_0 : wc.cell? ⟨gb157, 0, none⟩ = some (.int .i64 a0_0) := (blk_cell BK157.out 0).trans rfl
        have hcz15_1 : wc.cell? ⟨gb157, 1, none⟩ = some (.int .i64 a0_1) := (blk_cell BK157.out 1).trans rfl
        have hcz15_2 : wc.cell? ⟨gb157, 2, none⟩ = some (.int .i64 a0_2) := (blk_cell BK157.out 2).trans rfl
        have hcz15_3 : wc.cell? ⟨gb157, 3, none⟩ = some (.int .i64 a0_3) := (blk_cell BK157.out 3).trans rfl
        have hcz15_4 : wc.cell? ⟨gb157, 4, none⟩ = some (.int .i64 a0_4) := (blk_cell BK157.out 4).trans rfl
        have hcz15_5 : wc.cell? ⟨gb157, 5, none⟩ = some (.int .i64 a0_5) := (blk_cell BK157.out 5).trans rfl
        have hcz15_6 : wc.cell? ⟨gb157, 6, none⟩ = some (.int .i64 a0_6) := (blk_cell BK157.out 6).trans rfl
        have hcz15_7 : wc.cell? ⟨gb157, 7, none⟩ = some (.string a0_7) := (blk_cell BK157.out 7).trans rfl
        have hcz15_8 : wc.cell? ⟨gb157, 8, none⟩ = some (.int .i64 a0_8) := (blk_cell BK157.out 8).trans rfl
        have hcz15_9 : wc.cell? ⟨gb157, 9, none⟩ = some (.int .i64 a0_9) := (blk_cell BK157.out 9).trans rfl
        have hcz15_10 : wc.cell? ⟨gb157, 10, none⟩ = some (.slice A0_10 l0_10.length c0_10) := (blk_cell BK157.out 10).trans rfl
        have hcz15_11 : wc.cell? ⟨gb157, 11, none⟩ = some (.slice A0_11 l0_11.length c0_11) := (blk_cell BK157.out 11).trans rfl
        have hfz15_0 := blk_frozen BK157.out 0
        have hfz15_1 := blk_frozen BK157.out 1
        have hfz15_2 := blk_frozen BK157.out 2
        have hfz15_3 := blk_frozen BK157.out 3
        have hfz15_4 := blk_frozen BK157.out 4
        have hfz15_5 := blk_frozen BK157.out 5
        have hfz15_6 := blk_frozen BK157.out 6
        have hfz15_7 := blk_frozen BK157.out 7
        have hfz15_8 := blk_frozen BK157.out 8
        have hfz15_9 := blk_frozen BK157.out 9
        have hfz15_10 := blk_frozen BK157.out 10
        have hfz15_11 := blk_frozen BK157.out 11
        go_wp2
        go_loopg [3, 4] kj2 (fun kq v3 v4 w' => ∃ (x3_2 : Bool) (x4_2 : Int), v3 = .bool x3_2 ∧ v4 = .int .i64 x4_2 ∧ Aside0 (gimbalref14_entries.l0 kq x3_2 x4_2 a0_0 a0_1 a0_2 a0_3 a0_4 a0_5 a0_6 a0_7 a0_8 a0_9 l0_10 l0_11 = some r) ∧ Aside0 (kq ≤ kj2) ∧ Aside0 (w'.heap[gb157]? = some (.cells #[.int .i64 a0_0, .int .i64 a0_1, .int .i64 a0_2, .int .i64 a0_3, .int .i64 a0_4, .int .i64 a0_5, .int .i64 a0_6, .string a0_7, .int .i64 a0_8, .int .i64 a0_9, (.slice A0_10 l0_10.length c0_10), (.slice A0_11 l0_11.length c0_11)] 41 (0, 0))) ∧ Aside0 (Below w.heap.size w w'))
        case atStart => exact ⟨(x3_2), (0), (by first | rfl | (simp; done) | (simp [*]; done)), (by first | rfl | (simp; done) | (simp [*]; done)), H', ⟨Nat.le_refl _⟩, ⟨by (with_reducible repeat (first | refine blk_drewN ?_ _ | refine blk_drew ?_ | refine blk_alloc ?_ _)); exact BK157.out⟩, ⟨by repeat (first | (with_reducible first | exact HB.out | apply below_alloc | apply pw_below_drewN | apply below_drew1 | refine below_set ?_ GE157.out) | exact HB.out)⟩⟩
        case round =>
          clear H'
          try clear c1
          try clear p2
          try clear c4
          try clear c5
          try clear c8
          try clear c8b0
          try clear c8b1
          try clear c9
          try clear c9b0
          try clear c14
          try clear c14b0
          try clear c14b1
          try clear hcz11_0
          try clear hcz11_1
          try clear hcz11_10
          try clear hcz11_11
          try clear hcz11_2
          try clear hcz11_3
          try clear hcz11_4
          try clear hcz11_5
          try clear hcz11_6
          try clear hcz11_7
          try clear hcz11_8
          try clear hcz11_9
          try clear hcz13_0
          try clear hcz13_1
          try clear hcz13_10
          try clear hcz13_11
          try clear hcz13_2
          try clear hcz13_3
          try clear hcz13_4
          try clear hcz13_5
          try clear hcz13_6
          try clear hcz13_7
          try clear hcz13_8
          try clear hcz13_9
          try clear hcz15_0
          try clear hcz15_1
          try clear hcz15_10
          try clear hcz15_11
          try clear hcz15_2
          try clear hcz15_3
          try clear hcz15_4
          try clear hcz15_5
          try clear hcz15_6
          try clear hcz15_7
          try clear hcz15_8
          try clear hcz15_9
          try clear hcz5_0
          try clear hcz5_1
          try clear hcz5_10
          try clear hcz5_11
          try clear hcz5_2
          try clear hcz5_3
          try clear hcz5_4
          try clear hcz5_5
          try clear hcz5_6
          try clear hcz5_7
          try clear hcz5_8
          try clear hcz5_9
          try clear hcz7_0
          try clear hcz7_1
          try clear hcz7_10
          try clear hcz7_11
          try clear hcz7_2
          try clear hcz7_3
          try clear hcz7_4
          try clear hcz7_5
          try clear hcz7_6
          try clear hcz7_7
          try clear hcz7_8
          try clear hcz7_9
          try clear hfz11_0
          try clear hfz11_1
          try clear hfz11_10
          try clear hfz11_11
          try clear hfz11_2
          try clear hfz11_3
          try clear hfz11_4
          try clear hfz11_5
          try clear hfz11_6
          try clear hfz11_7
          try clear hfz11_8
          try clear hfz11_9
          try clear hfz13_0
          try clear hfz13_1
          try clear hfz13_10
          try clear hfz13_11
          try clear hfz13_2
          try clear hfz13_3
          try clear hfz13_4
          try clear hfz13_5
          try clear hfz13_6
          try clear hfz13_7
          try clear hfz13_8
          try clear hfz13_9
          try clear hfz15_0
          try clear hfz15_1
          try clear hfz15_10
          try clear hfz15_11
          try clear hfz15_2
          try clear hfz15_3
          try clear hfz15_4
          try clear hfz15_5
          try clear hfz15_6
          try clear hfz15_7
          try clear hfz15_8
          try clear hfz15_9
          try clear hfz5_0
          try clear hfz5_1
          try clear hfz5_10
          try clear hfz5_11
          try clear hfz5_2
          try clear hfz5_3
          try clear hfz5_4
          try clear hfz5_5
          try clear hfz5_6
          try clear hfz5_7
          try clear hfz5_8
          try clear hfz5_9
          try clear hfz7_0
          try clear hfz7_1
          try clear hfz7_10
          try clear hfz7_11
          try clear hfz7_2
          try clear hfz7_3
          try clear hfz7_4
          try clear hfz7_5
          try clear hfz7_6
          try clear hfz7_7
          try clear hfz7_8
          try clear hfz7_9
          try clear p2
          obtain ⟨x3_2, x4_2, rfl, rfl, HA, HK2, BK157, HB⟩ := hrel
          cases gk with
          | zero => exact absurd HA.out (by simp [gimbalref14_entries.l0])
          | succ k2 =>
            have H := HA.out
            clear HA
            simp only [gimbalref14_entries.l0] at H
            by_cases c16 : x4_2 < (l0_11.length : Int)
            · rw [if_pos c16] at H
              have c16b0 : decide (x4_2 < (l0_11.length : Int)) = true := decide_eq_true c16
              clear c16
              by_cases c17 : x3_2 = true
              · subst c17
                have H1 : (if 0 ≤ x4_2 then ((gimbalref04_Check.f k2 ((rd_T38 l0_11 x4_2).f0) ((rd_T38 l0_11 x4_2).f1) ((rd_T38 l0_11 x4_2).f2.f0) ((rd_T38 l0_11 x4_2).f2.f1) ((rd_T38 l0_11 x4_2).f2.f2) ((rd_T38 l0_11 x4_2).f2.f3) ((rd_T38 l0_11 x4_2).f2.f4)).bind fun t161 => (gimbalref14_entries.l0 k2 (t161 == 0) (wrap64 (x4_2 + 1)) a0_0 a0_1 a0_2 a0_3 a0_4 a0_5 a0_6 a0_7 a0_8 a0_9 l0_10 l0_11)) else (none)) = some r := by rw [if_pos rfl] at H; exact H
                clear H
                have H := H1
                clear H1
                by_cases c18 : 0 ≤ x4_2
                · rw [if_pos c18] at H
                  have c18b0 : decide (0 ≤ x4_2) = true := decide_eq_true c18
                  clear c18
                  replace H := Option.bind_eq_some_iff.mp H
                  obtain ⟨t161, A190, H⟩ := H
                  replace H : (gimbalref14_entries.l0 k2 (t161 == 0) (wrap64 (x4_2 + 1)) a0_0 a0_1 a0_2 a0_3 a0_4 a0_5 a0_6 a0_7 a0_8 a0_9 l0_10 l0_11) = some r := H
                  have A19 := Aside0.mk A190
                  clear A190
                  have H' := Aside0.mk H
                  clear H
                  have hcz20_0 : wr.cell? ⟨gb157, 0, none⟩ = some (.int .i64 a0_0) := (blk_cell BK157.out 0).trans rfl
                  have hcz20_1 : wr.cell? ⟨gb157, 1, none⟩ = some (.int .i64 a0_1) := (blk_cell BK157.out 1).trans rfl
                  have hcz20_2 : wr.cell? ⟨gb157, 2, none⟩ = some (.int .i64 a0_2) := (blk_cell BK157.out 2).trans rfl
                  have hcz20_3 : wr.cell? ⟨gb157, 3, none⟩ = some (.int .i64 a0_3) := (blk_cell BK157.out 3).trans rfl
                  have hcz20_4 : wr.cell? ⟨gb157, 4, none⟩ = some (.int .i64 a0_4) := (blk_cell BK157.out 4).trans rfl
                  have hcz20_5 : wr.cell? ⟨gb157, 5, none⟩ = some (.int .i64 a0_5) := (blk_cell BK157.out 5).trans rfl
                  have hcz20_6 : wr.cell? ⟨gb157, 6, none⟩ = some (.int .i64 a0_6) := (blk_cell BK157.out 6).trans rfl
                  have hcz20_7 : wr.cell? ⟨gb157, 7, none⟩ = some (.string a0_7) := (blk_cell BK157.out 7).trans rfl
                  have hcz20_8 : wr.cell? ⟨gb157, 8, none⟩ = some (.int .i64 a0_8) := (blk_cell BK157.out 8).trans rfl
                  have hcz20_9 : wr.cell? ⟨gb157, 9, none⟩ = some (.int .i64 a0_9) := (blk_cell BK157.out 9).trans rfl
                  have hcz20_10 : wr.cell? ⟨gb157, 10, none⟩ = some (.slice A0_10 l0_10.length c0_10) := (blk_cell BK157.out 10).trans rfl
                  have hcz20_11 : wr.cell? ⟨gb157, 11, none⟩ = some (.slice A0_11 l0_11.length c0_11) := (blk_cell BK157.out 11).trans rfl
                  have hfz20_0 := blk_frozen BK157.out 0
                  have hfz20_1 := blk_frozen BK157.out 1
                  have hfz20_2 := blk_frozen BK157.out 2
                  have hfz20_3 := blk_frozen BK157.out 3
                  have hfz20_4 := blk_frozen BK157.out 4
                  have hfz20_5 := blk_frozen BK157.out 5
                  have hfz20_6 := blk_frozen BK157.out 6
                  have hfz20_7 := blk_frozen BK157.out 7
                  have hfz20_8 := blk_frozen BK157.out 8
                  have hfz20_9 := blk_frozen BK157.out 9
                  have hfz20_10 := blk_frozen BK157.out 10
                  have hfz20_11 := blk_frozen BK157.out 11
                  have p160 : 0 ≤ (x4_2 : Int) := of_decide_eq_true (by first | (with_reducible assumption) | assumption)
                  have q160 : x4_2 < (l0_11.length : Int) := of_decide_eq_true (by first | (with_reducible assumption) | assumption)
                  obtain ⟨ad160, A160_6, c160_6, e160, hx160_0, hx160_1, hx160_2, hx160_3, hx160_4, hx160_5, hx160_6, hl160_6, hi160_6⟩ := at_T38 HR0_11.out x4_2 p160 q160
                  cases e160
                  replace hx160_0 := (HB.out.cell (World.block_lt_of_cell? w _ hx160_0)).trans hx160_0
                  replace hx160_1 := (HB.out.cell (World.block_lt_of_cell? w _ hx160_1)).trans hx160_1
                  replace hx160_2 := (HB.out.cell (World.block_lt_of_cell? w _ hx160_2)).trans hx160_2
                  replace hx160_3 := (HB.out.cell (World.block_lt_of_cell? w _ hx160_3)).trans hx160_3
                  replace hx160_4 := (HB.out.cell (World.block_lt_of_cell? w _ hx160_4)).trans hx160_4
                  replace hx160_5 := (HB.out.cell (World.block_lt_of_cell? w _ hx160_5)).trans hx160_5
                  replace hx160_6 := (HB.out.cell (World.block_lt_of_cell? w _ hx160_6)).trans hx160_6
                  have HR160_6 := Aside0.mk hi160_6
                  have HC160_6 := Aside0.mk hl160_6
                  clear hi160_6 hl160_6
                  replace p160 := eq_true p160
                  replace q160 := eq_true q160
                  go_wp2_with (first | (go_at_call 84; (with_reducible refine (gimbalref04_Check.calls k2 ((rd_T38 l0_11 x4_2).f0) ((rd_T38 l0_11 x4_2).f1) ((rd_T38 l0_11 x4_2).f2.f0) ((rd_T38 l0_11 x4_2).f2.f1) ((rd_T38 l0_11 x4_2).f2.f2) ((rd_T38 l0_11 x4_2).f2.f3) _ _ ((rd_T38 l0_11 x4_2).f2.f4) t161 _ ?side1 ?side2 A19.out).mono ?_); (case side1 => repeat (first | exact (Kd.C_below HR160_6.out HB.out) | (with_reducible refine Kd.C_alloc ?_ _) | (with_reducible refine Kd.C_drewN ?_ _) | (with_reducible refine Kd.C_drew ?_))); (case side2 => exact HC160_6.out); rintro e w21 ⟨rfl, hb⟩; have n0_ := Aside0.mk (blk_below (g := gb157) (o := .cells #[.int .i64 a0_0, .int .i64 a0_1, .int .i64 a0_2, .int .i64 a0_3, .int .i64 a0_4, .int .i64 a0_5, .int .i64 a0_6, .string a0_7, .int .i64 a0_8, .int .i64 a0_9, .slice A0_10 l0_10.length c0_10, .slice (some ad160) l0_11.length c0_11] 41 (0, 0)) (by (with_reducible repeat (first | refine blk_drewN ?_ _ | refine blk_drew ?_ | refine blk_alloc ?_ _)); exact BK157.out) hb); have n1_ := Aside0.mk (below_step (by repeat (first | (with_reducible first | exact HB.out | apply below_alloc | apply pw_below_drewN | apply below_drew1 | refine below_set ?_ GE157.out) | exact HB.out)) hb); clear BK157; clear HB; have BK157 := n0_; have HB := n1_; clear n0_ n1_; (try clear hb); (try clear hb2); (try clear hk); (try clear hi)))
                  go_roundg k2
                  case measure => have := HJ2.out; have := HK2.out; omega
                  case rel => exact ⟨((t161 == 0)), (wrap64 (x4_2 + 1)), (by first | rfl | (simp; done) | (simp [*]; done)), (by first | rfl | (simp; done) | (simp [*]; done)), H', ⟨by have := HJ2.out; have := HK2.out; omega⟩, ⟨by (with_reducible repeat (first | refine blk_drewN ?_ _ | refine blk_drew ?_ | refine blk_alloc ?_ _)); exact BK157.out⟩, ⟨by repeat (first | (with_reducible first | exact HB.out | apply below_alloc | apply pw_below_drewN | apply below_drew1 | refine below_set ?_ GE157.out) | exact HB.out)⟩⟩
                · rw [if_neg c18] at H
                  exact absurd H (by simp)
              · replace c17 := Bool.eq_false_iff.mpr c17
                subst c17
                have H1 : (gimbalref14_entries.l0 k2 false (wrap64 (x4_2 + 1)) a0_0 a0_1 a0_2 a0_3 a0_4 a0_5 a0_6 a0_7 a0_8 a0_9 l0_10 l0_11) = some r := by rw [if_neg (show ¬ (false = true) by decide)] at H; exact H
                clear H
                have H := H1
                clear H1
                have H' := Aside0.mk H
                clear H
                have hcz22_0 : wr.cell? ⟨gb157, 0, none⟩ = some (.int .i64 a0_0) := (blk_cell BK157.out 0).trans rfl
                have hcz22_1 : wr.cell? ⟨gb157, 1, none⟩ = some (.int .i64 a0_1) := (blk_cell BK157.out 1).trans rfl
                have hcz22_2 : wr.cell? ⟨gb157, 2, none⟩ = some (.int .i64 a0_2) := (blk_cell BK157.out 2).trans rfl
                have hcz22_3 : wr.cell? ⟨gb157, 3, none⟩ = some (.int .i64 a0_3) := (blk_cell BK157.out 3).trans rfl
                have hcz22_4 : wr.cell? ⟨gb157, 4, none⟩ = some (.int .i64 a0_4) := (blk_cell BK157.out 4).trans rfl
                have hcz22_5 : wr.cell? ⟨gb157, 5, none⟩ = some (.int .i64 a0_5) := (blk_cell BK157.out 5).trans rfl
                have hcz22_6 : wr.cell? ⟨gb157, 6, none⟩ = some (.int .i64 a0_6) := (blk_cell BK157.out 6).trans rfl
                have hcz22_7 : wr.cell? ⟨gb157, 7, none⟩ = some (.string a0_7) := (blk_cell BK157.out 7).trans rfl
                have hcz22_8 : wr.cell? ⟨gb157, 8, none⟩ = some (.int .i64 a0_8) := (blk_cell BK157.out 8).trans rfl
                have hcz22_9 : wr.cell? ⟨gb157, 9, none⟩ = some (.int .i64 a0_9) := (blk_cell BK157.out 9).trans rfl
                have hcz22_10 : wr.cell? ⟨gb157, 10, none⟩ = some (.slice A0_10 l0_10.length c0_10) := (blk_cell BK157.out 10).trans rfl
                have hcz22_11 : wr.cell? ⟨gb157, 11, none⟩ = some (.slice A0_11 l0_11.length c0_11) := (blk_cell BK157.out 11).trans rfl
                have hfz22_0 := blk_frozen BK157.out 0
                have hfz22_1 := blk_frozen BK157.out 1
                have hfz22_2 := blk_frozen BK157.out 2
                have hfz22_3 := blk_frozen BK157.out 3
                have hfz22_4 := blk_frozen BK157.out 4
                have hfz22_5 := blk_frozen BK157.out 5
                have hfz22_6 := blk_frozen BK157.out 6
                have hfz22_7 := blk_frozen BK157.out 7
                have hfz22_8 := blk_frozen BK157.out 8
                have hfz22_9 := blk_frozen BK157.out 9
                have hfz22_10 := blk_frozen BK157.out 10
                have hfz22_11 := blk_frozen BK157.out 11
                go_wp2
                go_roundg k2
                case measure => have := HJ2.out; have := HK2.out; omega
                case rel => exact ⟨(false), (wrap64 (x4_2 + 1)), (by first | rfl | (simp; done) | (simp [*]; done)), (by first | rfl | (simp; done) | (simp [*]; done)), H', ⟨by have := HJ2.out; have := HK2.out; omega⟩, ⟨by (with_reducible repeat (first | refine blk_drewN ?_ _ | refine blk_drew ?_ | refine blk_alloc ?_ _)); exact BK157.out⟩, ⟨by repeat (first | (with_reducible first | exact HB.out | apply below_alloc | apply pw_below_drewN | apply below_drew1 | refine below_set ?_ GE157.out) | exact HB.out)⟩⟩
            · rw [if_neg c16] at H
              have c16b0 : decide (x4_2 < (l0_11.length : Int)) = false := decide_eq_false c16
              clear c16
              by_cases c23 : x3_2 = true
              · subst c23
                have H1 : (some (decide ((l0_11.length : Int) ≤ 24))) = some r := by rw [if_pos rfl] at H; exact H
                clear H
                have H := H1
                clear H1
                obtain rfl := Option.some.inj H
                have hcz24_0 : wr.cell? ⟨gb157, 0, none⟩ = some (.int .i64 a0_0) := (blk_cell BK157.out 0).trans rfl
                have hcz24_1 : wr.cell? ⟨gb157, 1, none⟩ = some (.int .i64 a0_1) := (blk_cell BK157.out 1).trans rfl
                have hcz24_2 : wr.cell? ⟨gb157, 2, none⟩ = some (.int .i64 a0_2) := (blk_cell BK157.out 2).trans rfl
                have hcz24_3 : wr.cell? ⟨gb157, 3, none⟩ = some (.int .i64 a0_3) := (blk_cell BK157.out 3).trans rfl
                have hcz24_4 : wr.cell? ⟨gb157, 4, none⟩ = some (.int .i64 a0_4) := (blk_cell BK157.out 4).trans rfl
                have hcz24_5 : wr.cell? ⟨gb157, 5, none⟩ = some (.int .i64 a0_5) := (blk_cell BK157.out 5).trans rfl
                have hcz24_6 : wr.cell? ⟨gb157, 6, none⟩ = some (.int .i64 a0_6) := (blk_cell BK157.out 6).trans rfl
                have hcz24_7 : wr.cell? ⟨gb157, 7, none⟩ = some (.string a0_7) := (blk_cell BK157.out 7).trans rfl
                have hcz24_8 : wr.cell? ⟨gb157, 8, none⟩ = some (.int .i64 a0_8) := (blk_cell BK157.out 8).trans rfl
                have hcz24_9 : wr.cell? ⟨gb157, 9, none⟩ = some (.int .i64 a0_9) := (blk_cell BK157.out 9).trans rfl
                have hcz24_10 : wr.cell? ⟨gb157, 10, none⟩ = some (.slice A0_10 l0_10.length c0_10) := (blk_cell BK157.out 10).trans rfl
                have hcz24_11 : wr.cell? ⟨gb157, 11, none⟩ = some (.slice A0_11 l0_11.length c0_11) := (blk_cell BK157.out 11).trans rfl
                have hfz24_0 := blk_frozen BK157.out 0
                have hfz24_1 := blk_frozen BK157.out 1
                have hfz24_2 := blk_frozen BK157.out 2
                have hfz24_3 := blk_frozen BK157.out 3
                have hfz24_4 := blk_frozen BK157.out 4
                have hfz24_5 := blk_frozen BK157.out 5
                have hfz24_6 := blk_frozen BK157.out 6
                have hfz24_7 := blk_frozen BK157.out 7
                have hfz24_8 := blk_frozen BK157.out 8
                have hfz24_9 := blk_frozen BK157.out 9
                have hfz24_10 := blk_frozen BK157.out 10
                have hfz24_11 := blk_frozen BK157.out 11
                go_wp2
                go_ret
                exact ⟨by first | rfl | (simp [errW_none, errW_some] <;> rfl) | (simp [*, errW_none, errW_some] <;> rfl), by repeat (first | (with_reducible first | exact HB.out | apply below_alloc | apply pw_below_drewN | apply below_drew1 | refine below_set ?_ GE157.out) | exact HB.out)⟩
              · replace c23 := Bool.eq_false_iff.mpr c23
                subst c23
                have H1 : (some false) = some r := by rw [if_neg (show ¬ (false = true) by decide)] at H; exact H
                clear H
                have H := H1
                clear H1
                obtain rfl := Option.some.inj H
                have hcz25_0 : wr.cell? ⟨gb157, 0, none⟩ = some (.int .i64 a0_0) := (blk_cell BK157.out 0).trans rfl
                have hcz25_1 : wr.cell? ⟨gb157, 1, none⟩ = some (.int .i64 a0_1) := (blk_cell BK157.out 1).trans rfl
                have hcz25_2 : wr.cell? ⟨gb157, 2, none⟩ = some (.int .i64 a0_2) := (blk_cell BK157.out 2).trans rfl
                have hcz25_3 : wr.cell? ⟨gb157, 3, none⟩ = some (.int .i64 a0_3) := (blk_cell BK157.out 3).trans rfl
                have hcz25_4 : wr.cell? ⟨gb157, 4, none⟩ = some (.int .i64 a0_4) := (blk_cell BK157.out 4).trans rfl
                have hcz25_5 : wr.cell? ⟨gb157, 5, none⟩ = some (.int .i64 a0_5) := (blk_cell BK157.out 5).trans rfl
                have hcz25_6 : wr.cell? ⟨gb157, 6, none⟩ = some (.int .i64 a0_6) := (blk_cell BK157.out 6).trans rfl
                have hcz25_7 : wr.cell? ⟨gb157, 7, none⟩ = some (.string a0_7) := (blk_cell BK157.out 7).trans rfl
                have hcz25_8 : wr.cell? ⟨gb157, 8, none⟩ = some (.int .i64 a0_8) := (blk_cell BK157.out 8).trans rfl
                have hcz25_9 : wr.cell? ⟨gb157, 9, none⟩ = some (.int .i64 a0_9) := (blk_cell BK157.out 9).trans rfl
                have hcz25_10 : wr.cell? ⟨gb157, 10, none⟩ = some (.slice A0_10 l0_10.length c0_10) := (blk_cell BK157.out 10).trans rfl
                have hcz25_11 : wr.cell? ⟨gb157, 11, none⟩ = some (.slice A0_11 l0_11.length c0_11) := (blk_cell BK157.out 11).trans rfl
                have hfz25_0 := blk_frozen BK157.out 0
                have hfz25_1 := blk_frozen BK157.out 1
                have hfz25_2 := blk_frozen BK157.out 2
                have hfz25_3 := blk_frozen BK157.out 3
                have hfz25_4 := blk_frozen BK157.out 4
                have hfz25_5 := blk_frozen BK157.out 5
                have hfz25_6 := blk_frozen BK157.out 6
                have hfz25_7 := blk_frozen BK157.out 7
                have hfz25_8 := blk_frozen BK157.out 8
                have hfz25_9 := blk_frozen BK157.out 9
                have hfz25_10 := blk_frozen BK157.out 10
                have hfz25_11 := blk_frozen BK157.out 11
                go_wp2
                go_ret
                exact ⟨by first | rfl | (simp [errW_none, errW_some] <;> rfl) | (simp [*, errW_none, errW_some] <;> rfl), by repeat (first | (with_reducible first | exact HB.out | apply below_alloc | apply pw_below_drewN | apply below_drew1 | refine below_set ?_ GE157.out) | exact HB.out)⟩
      · rw [if_neg c14] at H
        have c14b0 : (a0_0 == 3) = false := beq_eq_false_iff_ne.mpr c14
        have c14b1 : (a0_0 != 3) = true := bne_iff_ne.mpr c14
        by_cases c26 : x3_2 = true
        · subst c26
          have H1 : (some ((l0_11.length : Int) == 0)) = some r := by rw [if_pos rfl] at H; exact H
          clear H
          have H := H1
          clear H1
          obtain rfl := Option.some.inj H
          have hcz27_0 : wc.cell? ⟨gb157, 0, none⟩ = some (.int .i64 a0_0) := (blk_cell BK157.out 0).trans rfl
          have hcz27_1 : wc.cell? ⟨gb157, 1, none⟩ = some (.int .i64 a0_1) := (blk_cell BK157.out 1).trans rfl
          have hcz27_2 : wc.cell? ⟨gb157, 2, none⟩ = some (.int .i64 a0_2) := (blk_cell BK157.out 2).trans rfl
          have hcz27_3 : wc.cell? ⟨gb157, 3, none⟩ = some (.int .i64 a0_3) := (blk_cell BK157.out 3).trans rfl
          have hcz27_4 : wc.cell? ⟨gb157, 4, none⟩ = some (.int .i64 a0_4) := (blk_cell BK157.out 4).trans rfl
          have hcz27_5 : wc.cell? ⟨gb157, 5, none⟩ = some (.int .i64 a0_5) := (blk_cell BK157.out 5).trans rfl
          have hcz27_6 : wc.cell? ⟨gb157, 6, none⟩ = some (.int .i64 a0_6) := (blk_cell BK157.out 6).trans rfl
          have hcz27_7 : wc.cell? ⟨gb157, 7, none⟩ = some (.string a0_7) := (blk_cell BK157.out 7).trans rfl
          have hcz27_8 : wc.cell? ⟨gb157, 8, none⟩ = some (.int .i64 a0_8) := (blk_cell BK157.out 8).trans rfl
          have hcz27_9 : wc.cell? ⟨gb157, 9, none⟩ = some (.int .i64 a0_9) := (blk_cell BK157.out 9).trans rfl
          have hcz27_10 : wc.cell? ⟨gb157, 10, none⟩ = some (.slice A0_10 l0_10.length c0_10) := (blk_cell BK157.out 10).trans rfl
          have hcz27_11 : wc.cell? ⟨gb157, 11, none⟩ = some (.slice A0_11 l0_11.length c0_11) := (blk_cell BK157.out 11).trans rfl
          have hfz27_0 := blk_frozen BK157.out 0
          have hfz27_1 := blk_frozen BK157.out 1
          have hfz27_2 := blk_frozen BK157.out 2
          have hfz27_3 := blk_frozen BK157.out 3
          have hfz27_4 := blk_frozen BK157.out 4
          have hfz27_5 := blk_frozen BK157.out 5
          have hfz27_6 := blk_frozen BK157.out 6
          have hfz27_7 := blk_frozen BK157.out 7
          have hfz27_8 := blk_frozen BK157.out 8
          have hfz27_9 := blk_frozen BK157.out 9
          have hfz27_10 := blk_frozen BK157.out 10
          have hfz27_11 := blk_frozen BK157.out 11
          go_wp2
          go_ret
          exact ⟨by first | rfl | (simp [errW_none, errW_some] <;> rfl) | (simp [*, errW_none, errW_some] <;> rfl), by repeat (first | (with_reducible first | exact HB.out | apply below_alloc | apply pw_below_drewN | apply below_drew1 | refine below_set ?_ GE157.out) | exact HB.out)⟩
        · replace c26 := Bool.eq_false_iff.mpr c26
          subst c26
          have H1 : (some false) = some r := by rw [if_neg (show ¬ (false = true) by decide)] at H; exact H
          clear H
          have H := H1
          clear H1
          obtain rfl := Option.some.inj H
          have hcz28_0 : wc.cell? ⟨gb157, 0, none⟩ = some (.int .i64 a0_0) := (blk_cell BK157.out 0).trans rfl
          have hcz28_1 : wc.cell? ⟨gb157, 1, none⟩ = some (.int .i64 a0_1) := (blk_cell BK157.out 1).trans rfl
          have hcz28_2 : wc.cell? ⟨gb157, 2, none⟩ = some (.int .i64 a0_2) := (blk_cell BK157.out 2).trans rfl
          have hcz28_3 : wc.cell? ⟨gb157, 3, none⟩ = some (.int .i64 a0_3) := (blk_cell BK157.out 3).trans rfl
          have hcz28_4 : wc.cell? ⟨gb157, 4, none⟩ = some (.int .i64 a0_4) := (blk_cell BK157.out 4).trans rfl
          have hcz28_5 : wc.cell? ⟨gb157, 5, none⟩ = some (.int .i64 a0_5) := (blk_cell BK157.out 5).trans rfl
          have hcz28_6 : wc.cell? ⟨gb157, 6, none⟩ = some (.int .i64 a0_6) := (blk_cell BK157.out 6).trans rfl
          have hcz28_7 : wc.cell? ⟨gb157, 7, none⟩ = some (.string a0_7) := (blk_cell BK157.out 7).trans rfl
          have hcz28_8 : wc.cell? ⟨gb157, 8, none⟩ = some (.int .i64 a0_8) := (blk_cell BK157.out 8).trans rfl
          have hcz28_9 : wc.cell? ⟨gb157, 9, none⟩ = some (.int .i64 a0_9) := (blk_cell BK157.out 9).trans rfl
          have hcz28_10 : wc.cell? ⟨gb157, 10, none⟩ = some (.slice A0_10 l0_10.length c0_10) := (blk_cell BK157.out 10).trans rfl
          have hcz28_11 : wc.cell? ⟨gb157, 11, none⟩ = some (.slice A0_11 l0_11.length c0_11) := (blk_cell BK157.out 11).trans rfl
          have hfz28_0 := blk_frozen BK157.out 0
          have hfz28_1 := blk_frozen BK157.out 1
          have hfz28_2 := blk_frozen BK157.out 2
          have hfz28_3 := blk_frozen BK157.out 3
          have hfz28_4 := blk_frozen BK157.out 4
          have hfz28_5 := blk_frozen BK157.out 5
          have hfz28_6 := blk_frozen BK157.out 6
          have hfz28_7 := blk_frozen BK157.out 7
          have hfz28_8 := blk_frozen BK157.out 8
          have hfz28_9 := blk_frozen BK157.out 9
          have hfz28_10 := blk_frozen BK157.out 10
          have hfz28_11 := blk_frozen BK157.out 11
          go_wp2
          go_ret
          exact ⟨by first | rfl | (simp [errW_none, errW_some] <;> rfl) | (simp [*, errW_none, errW_some] <;> rfl), by repeat (first | (with_reducible first | exact HB.out | apply below_alloc | apply pw_below_drewN | apply below_drew1 | refine below_set ?_ GE157.out) | exact HB.out)⟩
mutual
def gimbalref14_Check.j0 : Nat → Bool → Int → Int → Int → Int → Int → Int → Int → ByteArray → Int → Int → List (S118) → List (S38) → Option (Int)
  | 0, _, _, _, _, _, _, _, _, _, _, _, _, _ => none
  | k + 1, x3, x163000, x163001, x163002, x163003, x163004, x163005, x163006, x163007, x163008, x163009, x163010, x163011 => (gimbalref14_hasView.f x163000).bind fun t167 => (if t167 = true then (gimbalref14_Check.j1 k x3 x163000 x163001 x163002 x163003 x163004 x163005 x163006 x163007 x163008 x163009 x163010 x163011) else (if x3 = true then (if x163001 = 0 then (gimbalref14_Check.j1 k (x163002 == 0) x163000 x163001 x163002 x163003 x163004 x163005 x163006 x163007 x163008 x163009 x163010 x163011) else (gimbalref14_Check.j1 k false x163000 x163001 x163002 x163003 x163004 x163005 x163006 x163007 x163008 x163009 x163010 x163011)) else (gimbalref14_Check.j1 k false x163000 x163001 x163002 x163003 x163004 x163005 x163006 x163007 x163008 x163009 x163010 x163011)))
def gimbalref14_Check.j1 : Nat → Bool → Int → Int → Int → Int → Int → Int → Int → ByteArray → Int → Int → List (S118) → List (S38) → Option (Int)
  | 0, _, _, _, _, _, _, _, _, _, _, _, _, _ => none
  | k + 1, x3, x163000, x163001, x163002, x163003, x163004, x163005, x163006, x163007, x163008, x163009, x163010, x163011 => (gimbalref14_hasOp.f x163000).bind fun t168 => (if t168 = true then (if x3 = true then (some 0) else (some 2)) else (if x3 = true then (if x163003 = 0 then (some 0) else (some 2)) else (some 2)))
end
def gimbalref14_Check.f (k : Nat) (a0_0 : Int) (a0_1 : Int) (a0_2 : Int) (a0_3 : Int) (a0_4 : Int) (a0_5 : Int) (a0_6 : Int) (a0_7 : ByteArray) (a0_8 : Int) (a0_9 : Int) (l0_10 : List (S118)) (l0_11 : List (S38)) : Option (Int) := if a0_0 ≥ 1 then (if a0_0 ≤ 3 then ((gimbalref14_number.f a0_1).bind fun t163 => (if t163 = true then ((gimbalref14_number.f a0_2).bind fun t164 => (if t164 = true then ((gimbalref14_number.f a0_3).bind fun t165 => (if t165 = true then ((gimbalref14_entries.f k a0_0 a0_1 a0_2 a0_3 a0_4 a0_5 a0_6 a0_7 a0_8 a0_9 l0_10 l0_11).bind fun t166 => (gimbalref14_Check.j0 k t166 a0_0 a0_1 a0_2 a0_3 a0_4 a0_5 a0_6 a0_7 a0_8 a0_9 l0_10 l0_11)) else (gimbalref14_Check.j0 k false a0_0 a0_1 a0_2 a0_3 a0_4 a0_5 a0_6 a0_7 a0_8 a0_9 l0_10 l0_11))) else (gimbalref14_Check.j0 k false a0_0 a0_1 a0_2 a0_3 a0_4 a0_5 a0_6 a0_7 a0_8 a0_9 l0_10 l0_11))) else (gimbalref14_Check.j0 k false a0_0 a0_1 a0_2 a0_3 a0_4 a0_5 a0_6 a0_7 a0_8 a0_9 l0_10 l0_11))) else (gimbalref14_Check.j0 k false a0_0 a0_1 a0_2 a0_3 a0_4 a0_5 a0_6 a0_7 a0_8 a0_9 l0_10 l0_11)) else (gimbalref14_Check.j0 k false a0_0 a0_1 a0_2 a0_3 a0_4 a0_5 a0_6 a0_7 a0_8 a0_9 l0_10 l0_11)
set_option maxHeartbeats 8000000 in
set_option maxRecDepth 100000 in
theorem gimbalref14_Check.calls (k : Nat) (a0_0 : Int) (a0_1 : Int) (a0_2 : Int) (a0_3 : Int) (a0_4 : Int) (a0_5 : Int) (a0_6 : Int) (a0_7 : ByteArray) (a0_8 : Int) (a0_9 : Int) (A0_10 : Option Addr) (c0_10 : Nat) (l0_10 : List (S118)) (A0_11 : Option Addr) (c0_11 : Nat) (l0_11 : List (S38)) (r : Int) (w : World) (hr0_10 : Kd.C k118 w A0_10 l0_10.length l0_10) (hc0_10 : l0_10.length ≤ c0_10) (hr0_11 : Kd.C k38 w A0_11 l0_11.length l0_11) (hc0_11 : l0_11.length ≤ c0_11) (h : gimbalref14_Check.f k a0_0 a0_1 a0_2 a0_3 a0_4 a0_5 a0_6 a0_7 a0_8 a0_9 l0_10 l0_11 = some r) :
    Calls Tryd.prog 18 #[.agg #[.int .i64 a0_0, .int .i64 a0_1, .int .i64 a0_2, .int .i64 a0_3, .int .i64 a0_4, .int .i64 a0_5, .int .i64 a0_6, .string a0_7, .int .i64 a0_8, .int .i64 a0_9, .slice A0_10 l0_10.length c0_10, .slice A0_11 l0_11.length c0_11]] w fun e w' => e = .returned (.int .i64 r) ∧ Below w.heap.size w w' := by
  have hu41 := Tryd.underlying41
  have HR0_10 := Aside0.mk hr0_10
  have HC0_10 := Aside0.mk hc0_10
  clear hr0_10 hc0_10
  have HR0_11 := Aside0.mk hr0_11
  have HC0_11 := Aside0.mk hc0_11
  clear hr0_11 hc0_11
  have HB := Aside0.mk (Below.refl w.heap.size w)
  have H : (if a0_0 ≥ 1 then (if a0_0 ≤ 3 then ((gimbalref14_number.f a0_1).bind fun t163 => (if t163 = true then ((gimbalref14_number.f a0_2).bind fun t164 => (if t164 = true then ((gimbalref14_number.f a0_3).bind fun t165 => (if t165 = true then ((gimbalref14_entries.f k a0_0 a0_1 a0_2 a0_3 a0_4 a0_5 a0_6 a0_7 a0_8 a0_9 l0_10 l0_11).bind fun t166 => (gimbalref14_Check.j0 k t166 a0_0 a0_1 a0_2 a0_3 a0_4 a0_5 a0_6 a0_7 a0_8 a0_9 l0_10 l0_11)) else (gimbalref14_Check.j0 k false a0_0 a0_1 a0_2 a0_3 a0_4 a0_5 a0_6 a0_7 a0_8 a0_9 l0_10 l0_11))) else (gimbalref14_Check.j0 k false a0_0 a0_1 a0_2 a0_3 a0_4 a0_5 a0_6 a0_7 a0_8 a0_9 l0_10 l0_11))) else (gimbalref14_Check.j0 k false a0_0 a0_1 a0_2 a0_3 a0_4 a0_5 a0_6 a0_7 a0_8 a0_9 l0_10 l0_11))) else (gimbalref14_Check.j0 k false a0_0 a0_1 a0_2 a0_3 a0_4 a0_5 a0_6 a0_7 a0_8 a0_9 l0_10 l0_11)) else (gimbalref14_Check.j0 k false a0_0 a0_1 a0_2 a0_3 a0_4 a0_5 a0_6 a0_7 a0_8 a0_9 l0_10 l0_11)) = some r := h
  clear h
  have HC2 := Aside0.mk H
  clear H
  go_enter Tryd.func18, Tryd.ntmps18
  go_upto_region 1 with (first | ((with_reducible refine gate_dst (N := 1) rfl ?_); refine box_event ?hg (N := 1) ?hd (cs := #[.int .i64 a0_0, .int .i64 a0_1, .int .i64 a0_2, .int .i64 a0_3, .int .i64 a0_4, .int .i64 a0_5, .int .i64 a0_6, .string a0_7, .int .i64 a0_8, .int .i64 a0_9, .slice A0_10 l0_10.length c0_10, .slice A0_11 l0_11.length c0_11]) (t := 41) ?hr ?_; (case hd => rfl); (case hg => rfl); (case hr => first | (go_simp; done) | (go_simp; rfl)); intro gb162 hg w3 hbox hb; have n0_ := Aside0.mk (below_step (by repeat (first | (with_reducible first | exact HB.out | apply below_alloc | apply pw_below_drewN | apply below_drew1) | exact HB.out)) hb); have n1_ := Aside0.mk (hbox); have n2_ := Aside0.mk ((by rw [hg]; exact (below_size (by repeat (first | (with_reducible first | exact HB.out | apply below_alloc | apply pw_below_drewN | apply below_drew1) | exact HB.out))) : w.heap.size ≤ gb162)); have n3_ := Aside0.mk ((by rw [hg]; exact (below_size (by repeat (first | (with_reducible first | exact HB.out | apply below_alloc | apply pw_below_drewN | apply below_drew1) | exact HB.out))) : w.heap.size ≤ gb162)); clear HB; have HB := n0_; have BK162 := n1_; have GW162 := n2_; have GE162 := n3_; clear n0_ n1_ n2_ n3_; clear hb hbox hg))
  (try simp only [Act.put, List.setIfInBounds_toArray, List.set_cons_zero, List.set_cons_succ])
  go_cut [3] (fun v3 wc => ∃ (kq : Nat) (x3_1 : Bool), v3 = .bool x3_1 ∧ Aside0 (gimbalref14_Check.j0 kq x3_1 a0_0 a0_1 a0_2 a0_3 a0_4 a0_5 a0_6 a0_7 a0_8 a0_9 l0_10 l0_11 = some r) ∧ Aside0 (kq ≤ k) ∧ Aside0 (wc.heap[gb162]? = some (.cells #[.int .i64 a0_0, .int .i64 a0_1, .int .i64 a0_2, .int .i64 a0_3, .int .i64 a0_4, .int .i64 a0_5, .int .i64 a0_6, .string a0_7, .int .i64 a0_8, .int .i64 a0_9, (.slice A0_10 l0_10.length c0_10), (.slice A0_11 l0_11.length c0_11)] 41 (0, 0))) ∧ Aside0 (Below w.heap.size w wc))
  case first =>
    have H := HC2.out
    clear HC2
    by_cases c4 : a0_0 ≥ 1
    · rw [if_pos c4] at H
      have c4b0 : decide (1 ≤ a0_0) = true := decide_eq_true c4
      clear c4
      (first | rw [c4b0] | (simp only [i64_w, i32_w]; rw [c4b0]) | skip)
      by_cases c5 : a0_0 ≤ 3
      · rw [if_pos c5] at H
        have c5b0 : decide (a0_0 ≤ 3) = true := decide_eq_true c5
        clear c5
        replace H := Option.bind_eq_some_iff.mp H
        obtain ⟨t163, A60, H⟩ := H
        replace H : (if t163 = true then ((gimbalref14_number.f a0_2).bind fun t164 => (if t164 = true then ((gimbalref14_number.f a0_3).bind fun t165 => (if t165 = true then ((gimbalref14_entries.f k a0_0 a0_1 a0_2 a0_3 a0_4 a0_5 a0_6 a0_7 a0_8 a0_9 l0_10 l0_11).bind fun t166 => (gimbalref14_Check.j0 k t166 a0_0 a0_1 a0_2 a0_3 a0_4 a0_5 a0_6 a0_7 a0_8 a0_9 l0_10 l0_11)) else (gimbalref14_Check.j0 k false a0_0 a0_1 a0_2 a0_3 a0_4 a0_5 a0_6 a0_7 a0_8 a0_9 l0_10 l0_11))) else (gimbalref14_Check.j0 k false a0_0 a0_1 a0_2 a0_3 a0_4 a0_5 a0_6 a0_7 a0_8 a0_9 l0_10 l0_11))) else (gimbalref14_Check.j0 k false a0_0 a0_1 a0_2 a0_3 a0_4 a0_5 a0_6 a0_7 a0_8 a0_9 l0_10 l0_11)) = some r := H
        have A6 := Aside0.mk A60
        clear A60
        by_cases c7 : t163 = true
        · subst c7
          have H1 : ((gimbalref14_number.f a0_2).bind fun t164 => (if t164 = true then ((gimbalref14_number.f a0_3).bind fun t165 => (if t165 = true then ((gimbalref14_entries.f k a0_0 a0_1 a0_2 a0_3 a0_4 a0_5 a0_6 a0_7 a0_8 a0_9 l0_10 l0_11).bind fun t166 => (gimbalref14_Check.j0 k t166 a0_0 a0_1 a0_2 a0_3 a0_4 a0_5 a0_6 a0_7 a0_8 a0_9 l0_10 l0_11)) else (gimbalref14_Check.j0 k false a0_0 a0_1 a0_2 a0_3 a0_4 a0_5 a0_6 a0_7 a0_8 a0_9 l0_10 l0_11))) else (gimbalref14_Check.j0 k false a0_0 a0_1 a0_2 a0_3 a0_4 a0_5 a0_6 a0_7 a0_8 a0_9 l0_10 l0_11))) = some r := by rw [if_pos rfl] at H; exact H
          clear H
          have H := H1
          clear H1
          replace H := Option.bind_eq_some_iff.mp H
          obtain ⟨t164, A80, H⟩ := H
          replace H : (if t164 = true then ((gimbalref14_number.f a0_3).bind fun t165 => (if t165 = true then ((gimbalref14_entries.f k a0_0 a0_1 a0_2 a0_3 a0_4 a0_5 a0_6 a0_7 a0_8 a0_9 l0_10 l0_11).bind fun t166 => (gimbalref14_Check.j0 k t166 a0_0 a0_1 a0_2 a0_3 a0_4 a0_5 a0_6 a0_7 a0_8 a0_9 l0_10 l0_11)) else (gimbalref14_Check.j0 k false a0_0 a0_1 a0_2 a0_3 a0_4 a0_5 a0_6 a0_7 a0_8 a0_9 l0_10 l0_11))) else (gimbalref14_Check.j0 k false a0_0 a0_1 a0_2 a0_3 a0_4 a0_5 a0_6 a0_7 a0_8 a0_9 l0_10 l0_11)) = some r := H
          have A8 := Aside0.mk A80
          clear A80
          by_cases c9 : t164 = true
          · subst c9
            have H1 : ((gimbalref14_number.f a0_3).bind fun t165 => (if t165 = true then ((gimbalref14_entries.f k a0_0 a0_1 a0_2 a0_3 a0_4 a0_5 a0_6 a0_7 a0_8 a0_9 l0_10 l0_11).bind fun t166 => (gimbalref14_Check.j0 k t166 a0_0 a0_1 a0_2 a0_3 a0_4 a0_5 a0_6 a0_7 a0_8 a0_9 l0_10 l0_11)) else (gimbalref14_Check.j0 k false a0_0 a0_1 a0_2 a0_3 a0_4 a0_5 a0_6 a0_7 a0_8 a0_9 l0_10 l0_11))) = some r := by rw [if_pos rfl] at H; exact H
            clear H
            have H := H1
            clear H1
            replace H := Option.bind_eq_some_iff.mp H
            obtain ⟨t165, A100, H⟩ := H
            replace H : (if t165 = true then ((gimbalref14_entries.f k a0_0 a0_1 a0_2 a0_3 a0_4 a0_5 a0_6 a0_7 a0_8 a0_9 l0_10 l0_11).bind fun t166 => (gimbalref14_Check.j0 k t166 a0_0 a0_1 a0_2 a0_3 a0_4 a0_5 a0_6 a0_7 a0_8 a0_9 l0_10 l0_11)) else (gimbalref14_Check.j0 k false a0_0 a0_1 a0_2 a0_3 a0_4 a0_5 a0_6 a0_7 a0_8 a0_9 l0_10 l0_11)) = some r := H
            have A10 := Aside0.mk A100
            clear A100
            by_cases c11 : t165 = true
            · subst c11
              have H1 : ((gimbalref14_entries.f k a0_0 a0_1 a0_2 a0_3 a0_4 a0_5 a0_6 a0_7 a0_8 a0_9 l0_10 l0_11).bind fun t166 => (gimbalref14_Check.j0 k t166 a0_0 a0_1 a0_2 a0_3 a0_4 a0_5 a0_6 a0_7 a0_8 a0_9 l0_10 l0_11)) = some r := by rw [if_pos rfl] at H; exact H
              clear H
              have H := H1
              clear H1
              replace H := Option.bind_eq_some_iff.mp H
              obtain ⟨t166, A120, H⟩ := H
              replace H : (gimbalref14_Check.j0 k t166 a0_0 a0_1 a0_2 a0_3 a0_4 a0_5 a0_6 a0_7 a0_8 a0_9 l0_10 l0_11) = some r := H
              have A12 := Aside0.mk A120
              clear A120
              have H' := Aside0.mk H
              clear H
              have hcz13_0 : w3.cell? ⟨gb162, 0, none⟩ = some (.int .i64 a0_0) := (blk_cell BK162.out 0).trans rfl
              have hcz13_1 : w3.cell? ⟨gb162, 1, none⟩ = some (.int .i64 a0_1) := (blk_cell BK162.out 1).trans rfl
              have hcz13_2 : w3.cell? ⟨gb162, 2, none⟩ = some (.int .i64 a0_2) := (blk_cell BK162.out 2).trans rfl
              have hcz13_3 : w3.cell? ⟨gb162, 3, none⟩ = some (.int .i64 a0_3) := (blk_cell BK162.out 3).trans rfl
              have hcz13_4 : w3.cell? ⟨gb162, 4, none⟩ = some (.int .i64 a0_4) := (blk_cell BK162.out 4).trans rfl
              have hcz13_5 : w3.cell? ⟨gb162, 5, none⟩ = some (.int .i64 a0_5) := (blk_cell BK162.out 5).trans rfl
              have hcz13_6 : w3.cell? ⟨gb162, 6, none⟩ = some (.int .i64 a0_6) := (blk_cell BK162.out 6).trans rfl
              have hcz13_7 : w3.cell? ⟨gb162, 7, none⟩ = some (.string a0_7) := (blk_cell BK162.out 7).trans rfl
              have hcz13_8 : w3.cell? ⟨gb162, 8, none⟩ = some (.int .i64 a0_8) := (blk_cell BK162.out 8).trans rfl
              have hcz13_9 : w3.cell? ⟨gb162, 9, none⟩ = some (.int .i64 a0_9) := (blk_cell BK162.out 9).trans rfl
              have hcz13_10 : w3.cell? ⟨gb162, 10, none⟩ = some (.slice A0_10 l0_10.length c0_10) := (blk_cell BK162.out 10).trans rfl
              have hcz13_11 : w3.cell? ⟨gb162, 11, none⟩ = some (.slice A0_11 l0_11.length c0_11) := (blk_cell BK162.out 11).trans rfl
              have hfz13_0 := blk_frozen BK162.out 0
              have hfz13_1 := blk_frozen BK162.out 1
              have hfz13_2 := blk_frozen BK162.out 2
              have hfz13_3 := blk_frozen BK162.out 3
              have hfz13_4 := blk_frozen BK162.out 4
              have hfz13_5 := blk_frozen BK162.out 5
              have hfz13_6 := blk_frozen BK162.out 6
              have hfz13_7 := blk_frozen BK162.out 7
              have hfz13_8 := blk_frozen BK162.out 8
              have hfz13_9 := blk_frozen BK162.out 9
              have hfz13_10 := blk_frozen BK162.out 10
              have hfz13_11 := blk_frozen BK162.out 11
              go_wp2_with (first | (go_at_call 45; (with_reducible refine (gimbalref14_number.calls a0_1 true _ A6.out).mono ?_); rintro e w' ⟨rfl, ⟨nd, rfl⟩⟩) | (go_at_call 45; (with_reducible refine (gimbalref14_number.calls a0_2 true _ A8.out).mono ?_); rintro e w' ⟨rfl, ⟨nd, rfl⟩⟩) | (go_at_call 45; (with_reducible refine (gimbalref14_number.calls a0_3 true _ A10.out).mono ?_); rintro e w' ⟨rfl, ⟨nd, rfl⟩⟩) | (go_at_call 46; (with_reducible refine (gimbalref14_entries.calls k a0_0 a0_1 a0_2 a0_3 a0_4 a0_5 a0_6 a0_7 a0_8 a0_9 _ _ l0_10 _ _ l0_11 t166 _ ?side1 ?side2 ?side3 ?side4 A12.out).mono ?_); (case side1 => repeat (first | exact (Kd.C_below HR0_10.out (by repeat (first | (with_reducible first | exact HB.out | apply below_alloc | apply pw_below_drewN | apply below_drew1 | refine below_set ?_ GE162.out) | exact HB.out))) | (with_reducible refine Kd.C_alloc ?_ _) | (with_reducible refine Kd.C_drewN ?_ _) | (with_reducible refine Kd.C_drew ?_))); (case side2 => exact HC0_10.out); (case side3 => repeat (first | exact (Kd.C_below HR0_11.out (by repeat (first | (with_reducible first | exact HB.out | apply below_alloc | apply pw_below_drewN | apply below_drew1 | refine below_set ?_ GE162.out) | exact HB.out))) | (with_reducible refine Kd.C_alloc ?_ _) | (with_reducible refine Kd.C_drewN ?_ _) | (with_reducible refine Kd.C_drew ?_))); (case side4 => exact HC0_11.out); rintro e w14 ⟨rfl, hb⟩; have n0_ := Aside0.mk (blk_below (g := gb162) (o := .cells #[.int .i64 a0_0, .int .i64 a0_1, .int .i64 a0_2, .int .i64 a0_3, .int .i64 a0_4, .int .i64 a0_5, .int .i64 a0_6, .string a0_7, .int .i64 a0_8, .int .i64 a0_9, .slice A0_10 l0_10.length c0_10, .slice A0_11 l0_11.length c0_11] 41 (0, 0)) (by (with_reducible repeat (first | refine blk_drewN ?_ _ | refine blk_drew ?_ | refine blk_alloc ?_ _)); exact BK162.out) hb); have n1_ := Aside0.mk (below_step (by repeat (first | (with_reducible first | exact HB.out | apply below_alloc | apply pw_below_drewN | apply below_drew1 | refine below_set ?_ GE162.out) | exact HB.out)) hb); clear BK162; clear HB; have BK162 := n0_; have HB := n1_; clear n0_ n1_; (try clear hb); (try clear hb2); (try clear hk); (try clear hi)))
              go_meet
              case rel => exact ⟨_, (t166), (by first | rfl | (simp; done) | (simp [*]; done)), H', ⟨by first | omega | exact Nat.le_refl _⟩, ⟨by (with_reducible repeat (first | refine blk_drewN ?_ _ | refine blk_drew ?_ | refine blk_alloc ?_ _)); exact BK162.out⟩, ⟨by repeat (first | (with_reducible first | exact HB.out | apply below_alloc | apply pw_below_drewN | apply below_drew1 | refine below_set ?_ GE162.out) | exact HB.out)⟩⟩
            · replace c11 := Bool.eq_false_iff.mpr c11
              subst c11
              have H1 : (gimbalref14_Check.j0 k false a0_0 a0_1 a0_2 a0_3 a0_4 a0_5 a0_6 a0_7 a0_8 a0_9 l0_10 l0_11) = some r := by rw [if_neg (show ¬ (false = true) by decide)] at H; exact H
              clear H
              have H := H1
              clear H1
              have H' := Aside0.mk H
              clear H
              have hcz15_0 : w3.cell? ⟨gb162, 0, none⟩ = some (.int .i64 a0_0) := (blk_cell BK162.out 0).trans rfl
              have hcz15_1 : w3.cell? ⟨gb162, 1, none⟩ = some (.int .i64 a0_1) := (blk_cell BK162.out 1).trans rfl
              have hcz15_2 : w3.cell? ⟨gb162, 2, none⟩ = some (.int .i64 a0_2) := (blk_cell BK162.out 2).trans rfl
              have hcz15_3 : w3.cell? ⟨gb162, 3, none⟩ = some (.int .i64 a0_3) := (blk_cell BK162.out 3).trans rfl
              have hcz15_4 : w3.cell? ⟨gb162, 4, none⟩ = some (.int .i64 a0_4) := (blk_cell BK162.out 4).trans rfl
              have hcz15_5 : w3.cell? ⟨gb162, 5, none⟩ = some (.int .i64 a0_5) := (blk_cell BK162.out 5).trans rfl
              have hcz15_6 : w3.cell? ⟨gb162, 6, none⟩ = some (.int .i64 a0_6) := (blk_cell BK162.out 6).trans rfl
              have hcz15_7 : w3.cell? ⟨gb162, 7, none⟩ = some (.string a0_7) := (blk_cell BK162.out 7).trans rfl
              have hcz15_8 : w3.cell? ⟨gb162, 8, none⟩ = some (.int .i64 a0_8) := (blk_cell BK162.out 8).trans rfl
              have hcz15_9 : w3.cell? ⟨gb162, 9, none⟩ = some (.int .i64 a0_9) := (blk_cell BK162.out 9).trans rfl
              have hcz15_10 : w3.cell? ⟨gb162, 10, none⟩ = some (.slice A0_10 l0_10.length c0_10) := (blk_cell BK162.out 10).trans rfl
              have hcz15_11 : w3.cell? ⟨gb162, 11, none⟩ = some (.slice A0_11 l0_11.length c0_11) := (blk_cell BK162.out 11).trans rfl
              have hfz15_0 := blk_frozen BK162.out 0
              have hfz15_1 := blk_frozen BK162.out 1
              have hfz15_2 := blk_frozen BK162.out 2
              have hfz15_3 := blk_frozen BK162.out 3
              have hfz15_4 := blk_frozen BK162.out 4
              have hfz15_5 := blk_frozen BK162.out 5
              have hfz15_6 := blk_frozen BK162.out 6
              have hfz15_7 := blk_frozen BK162.out 7
              have hfz15_8 := blk_frozen BK162.out 8
              have hfz15_9 := blk_frozen BK162.out 9
              have hfz15_10 := blk_frozen BK162.out 10
              have hfz15_11 := blk_frozen BK162.out 11
              go_wp2_with (first | (go_at_call 45; (with_reducible refine (gimbalref14_number.calls a0_1 true _ A6.out).mono ?_); rintro e w' ⟨rfl, ⟨nd, rfl⟩⟩) | (go_at_call 45; (with_reducible refine (gimbalref14_number.calls a0_2 true _ A8.out).mono ?_); rintro e w' ⟨rfl, ⟨nd, rfl⟩⟩) | (go_at_call 45; (with_reducible refine (gimbalref14_number.calls a0_3 false _ A10.out).mono ?_); rintro e w' ⟨rfl, ⟨nd, rfl⟩⟩))
              go_meet
              case rel => exact ⟨_, (false), (by first | rfl | (simp; done) | (simp [*]; done)), H', ⟨by first | omega | exact Nat.le_refl _⟩, ⟨by (with_reducible repeat (first | refine blk_drewN ?_ _ | refine blk_drew ?_ | refine blk_alloc ?_ _)); exact BK162.out⟩, ⟨by repeat (first | (with_reducible first | exact HB.out | apply below_alloc | apply pw_below_drewN | apply below_drew1 | refine below_set ?_ GE162.out) | exact HB.out)⟩⟩
          · replace c9 := Bool.eq_false_iff.mpr c9
            subst c9
            have H1 : (gimbalref14_Check.j0 k false a0_0 a0_1 a0_2 a0_3 a0_4 a0_5 a0_6 a0_7 a0_8 a0_9 l0_10 l0_11) = some r := by rw [if_neg (show ¬ (false = true) by decide)] at H; exact H
            clear H
            have H := H1
            clear H1
            have H' := Aside0.mk H
            clear H
            have hcz16_0 : w3.cell? ⟨gb162, 0, none⟩ = some (.int .i64 a0_0) := (blk_cell BK162.out 0).trans rfl
            have hcz16_1 : w3.cell? ⟨gb162, 1, none⟩ = some (.int .i64 a0_1) := (blk_cell BK162.out 1).trans rfl
            have hcz16_2 : w3.cell? ⟨gb162, 2, none⟩ = some (.int .i64 a0_2) := (blk_cell BK162.out 2).trans rfl
            have hcz16_3 : w3.cell? ⟨gb162, 3, none⟩ = some (.int .i64 a0_3) := (blk_cell BK162.out 3).trans rfl
            have hcz16_4 : w3.cell? ⟨gb162, 4, none⟩ = some (.int .i64 a0_4) := (blk_cell BK162.out 4).trans rfl
            have hcz16_5 : w3.cell? ⟨gb162, 5, none⟩ = some (.int .i64 a0_5) := (blk_cell BK162.out 5).trans rfl
            have hcz16_6 : w3.cell? ⟨gb162, 6, none⟩ = some (.int .i64 a0_6) := (blk_cell BK162.out 6).trans rfl
            have hcz16_7 : w3.cell? ⟨gb162, 7, none⟩ = some (.string a0_7) := (blk_cell BK162.out 7).trans rfl
            have hcz16_8 : w3.cell? ⟨gb162, 8, none⟩ = some (.int .i64 a0_8) := (blk_cell BK162.out 8).trans rfl
            have hcz16_9 : w3.cell? ⟨gb162, 9, none⟩ = some (.int .i64 a0_9) := (blk_cell BK162.out 9).trans rfl
            have hcz16_10 : w3.cell? ⟨gb162, 10, none⟩ = some (.slice A0_10 l0_10.length c0_10) := (blk_cell BK162.out 10).trans rfl
            have hcz16_11 : w3.cell? ⟨gb162, 11, none⟩ = some (.slice A0_11 l0_11.length c0_11) := (blk_cell BK162.out 11).trans rfl
            have hfz16_0 := blk_frozen BK162.out 0
            have hfz16_1 := blk_frozen BK162.out 1
            have hfz16_2 := blk_frozen BK162.out 2
            have hfz16_3 := blk_frozen BK162.out 3
            have hfz16_4 := blk_frozen BK162.out 4
            have hfz16_5 := blk_frozen BK162.out 5
            have hfz16_6 := blk_frozen BK162.out 6
            have hfz16_7 := blk_frozen BK162.out 7
            have hfz16_8 := blk_frozen BK162.out 8
            have hfz16_9 := blk_frozen BK162.out 9
            have hfz16_10 := blk_frozen BK162.out 10
            have hfz16_11 := blk_frozen BK162.out 11
            go_wp2_with (first | (go_at_call 45; (with_reducible refine (gimbalref14_number.calls a0_1 true _ A6.out).mono ?_); rintro e w' ⟨rfl, ⟨nd, rfl⟩⟩) | (go_at_call 45; (with_reducible refine (gimbalref14_number.calls a0_2 false _ A8.out).mono ?_); rintro e w' ⟨rfl, ⟨nd, rfl⟩⟩))
            go_meet
            case rel => exact ⟨_, (false), (by first | rfl | (simp; done) | (simp [*]; done)), H', ⟨by first | omega | exact Nat.le_refl _⟩, ⟨by (with_reducible repeat (first | refine blk_drewN ?_ _ | refine blk_drew ?_ | refine blk_alloc ?_ _)); exact BK162.out⟩, ⟨by repeat (first | (with_reducible first | exact HB.out | apply below_alloc | apply pw_below_drewN | apply below_drew1 | refine below_set ?_ GE162.out) | exact HB.out)⟩⟩
        · replace c7 := Bool.eq_false_iff.mpr c7
          subst c7
          have H1 : (gimbalref14_Check.j0 k false a0_0 a0_1 a0_2 a0_3 a0_4 a0_5 a0_6 a0_7 a0_8 a0_9 l0_10 l0_11) = some r := by rw [if_neg (show ¬ (false = true) by decide)] at H; exact H
          clear H
          have H := H1
          clear H1
          have H' := Aside0.mk H
          clear H
          have hcz17_0 : w3.cell? ⟨gb162, 0, none⟩ = some (.int .i64 a0_0) := (blk_cell BK162.out 0).trans rfl
          have hcz17_1 : w3.cell? ⟨gb162, 1, none⟩ = some (.int .i64 a0_1) := (blk_cell BK162.out 1).trans rfl
          have hcz17_2 : w3.cell? ⟨gb162, 2, none⟩ = some (.int .i64 a0_2) := (blk_cell BK162.out 2).trans rfl
          have hcz17_3 : w3.cell? ⟨gb162, 3, none⟩ = some (.int .i64 a0_3) := (blk_cell BK162.out 3).trans rfl
          have hcz17_4 : w3.cell? ⟨gb162, 4, none⟩ = some (.int .i64 a0_4) := (blk_cell BK162.out 4).trans rfl
          have hcz17_5 : w3.cell? ⟨gb162, 5, none⟩ = some (.int .i64 a0_5) := (blk_cell BK162.out 5).trans rfl
          have hcz17_6 : w3.cell? ⟨gb162, 6, none⟩ = some (.int .i64 a0_6) := (blk_cell BK162.out 6).trans rfl
          have hcz17_7 : w3.cell? ⟨gb162, 7, none⟩ = some (.string a0_7) := (blk_cell BK162.out 7).trans rfl
          have hcz17_8 : w3.cell? ⟨gb162, 8, none⟩ = some (.int .i64 a0_8) := (blk_cell BK162.out 8).trans rfl
          have hcz17_9 : w3.cell? ⟨gb162, 9, none⟩ = some (.int .i64 a0_9) := (blk_cell BK162.out 9).trans rfl
          have hcz17_10 : w3.cell? ⟨gb162, 10, none⟩ = some (.slice A0_10 l0_10.length c0_10) := (blk_cell BK162.out 10).trans rfl
          have hcz17_11 : w3.cell? ⟨gb162, 11, none⟩ = some (.slice A0_11 l0_11.length c0_11) := (blk_cell BK162.out 11).trans rfl
          have hfz17_0 := blk_frozen BK162.out 0
          have hfz17_1 := blk_frozen BK162.out 1
          have hfz17_2 := blk_frozen BK162.out 2
          have hfz17_3 := blk_frozen BK162.out 3
          have hfz17_4 := blk_frozen BK162.out 4
          have hfz17_5 := blk_frozen BK162.out 5
          have hfz17_6 := blk_frozen BK162.out 6
          have hfz17_7 := blk_frozen BK162.out 7
          have hfz17_8 := blk_frozen BK162.out 8
          have hfz17_9 := blk_frozen BK162.out 9
          have hfz17_10 := blk_frozen BK162.out 10
          have hfz17_11 := blk_frozen BK162.out 11
          go_wp2_with (first | (go_at_call 45; (with_reducible refine (gimbalref14_number.calls a0_1 false _ A6.out).mono ?_); rintro e w' ⟨rfl, ⟨nd, rfl⟩⟩))
          go_meet
          case rel => exact ⟨_, (false), (by first | rfl | (simp; done) | (simp [*]; done)), H', ⟨by first | omega | exact Nat.le_refl _⟩, ⟨by (with_reducible repeat (first | refine blk_drewN ?_ _ | refine blk_drew ?_ | refine blk_alloc ?_ _)); exact BK162.out⟩, ⟨by repeat (first | (with_reducible first | exact HB.out | apply below_alloc | apply pw_below_drewN | apply below_drew1 | refine below_set ?_ GE162.out) | exact HB.out)⟩⟩
      · rw [if_neg c5] at H
        have c5b0 : decide (a0_0 ≤ 3) = false := decide_eq_false c5
        clear c5
        have H' := Aside0.mk H
        clear H
        have hcz18_0 : w3.cell? ⟨gb162, 0, none⟩ = some (.int .i64 a0_0) := (blk_cell BK162.out 0).trans rfl
        have hcz18_1 : w3.cell? ⟨gb162, 1, none⟩ = some (.int .i64 a0_1) := (blk_cell BK162.out 1).trans rfl
        have hcz18_2 : w3.cell? ⟨gb162, 2, none⟩ = some (.int .i64 a0_2) := (blk_cell BK162.out 2).trans rfl
        have hcz18_3 : w3.cell? ⟨gb162, 3, none⟩ = some (.int .i64 a0_3) := (blk_cell BK162.out 3).trans rfl
        have hcz18_4 : w3.cell? ⟨gb162, 4, none⟩ = some (.int .i64 a0_4) := (blk_cell BK162.out 4).trans rfl
        have hcz18_5 : w3.cell? ⟨gb162, 5, none⟩ = some (.int .i64 a0_5) := (blk_cell BK162.out 5).trans rfl
        have hcz18_6 : w3.cell? ⟨gb162, 6, none⟩ = some (.int .i64 a0_6) := (blk_cell BK162.out 6).trans rfl
        have hcz18_7 : w3.cell? ⟨gb162, 7, none⟩ = some (.string a0_7) := (blk_cell BK162.out 7).trans rfl
        have hcz18_8 : w3.cell? ⟨gb162, 8, none⟩ = some (.int .i64 a0_8) := (blk_cell BK162.out 8).trans rfl
        have hcz18_9 : w3.cell? ⟨gb162, 9, none⟩ = some (.int .i64 a0_9) := (blk_cell BK162.out 9).trans rfl
        have hcz18_10 : w3.cell? ⟨gb162, 10, none⟩ = some (.slice A0_10 l0_10.length c0_10) := (blk_cell BK162.out 10).trans rfl
        have hcz18_11 : w3.cell? ⟨gb162, 11, none⟩ = some (.slice A0_11 l0_11.length c0_11) := (blk_cell BK162.out 11).trans rfl
        have hfz18_0 := blk_frozen BK162.out 0
        have hfz18_1 := blk_frozen BK162.out 1
        have hfz18_2 := blk_frozen BK162.out 2
        have hfz18_3 := blk_frozen BK162.out 3
        have hfz18_4 := blk_frozen BK162.out 4
        have hfz18_5 := blk_frozen BK162.out 5
        have hfz18_6 := blk_frozen BK162.out 6
        have hfz18_7 := blk_frozen BK162.out 7
        have hfz18_8 := blk_frozen BK162.out 8
        have hfz18_9 := blk_frozen BK162.out 9
        have hfz18_10 := blk_frozen BK162.out 10
        have hfz18_11 := blk_frozen BK162.out 11
        go_wp2
        go_meet
        case rel => exact ⟨_, (false), (by first | rfl | (simp; done) | (simp [*]; done)), H', ⟨by first | omega | exact Nat.le_refl _⟩, ⟨by (with_reducible repeat (first | refine blk_drewN ?_ _ | refine blk_drew ?_ | refine blk_alloc ?_ _)); exact BK162.out⟩, ⟨by repeat (first | (with_reducible first | exact HB.out | apply below_alloc | apply pw_below_drewN | apply below_drew1 | refine below_set ?_ GE162.out) | exact HB.out)⟩⟩
    · rw [if_neg c4] at H
      have c4b0 : decide (1 ≤ a0_0) = false := decide_eq_false c4
      clear c4
      (first | rw [c4b0] | (simp only [i64_w, i32_w]; rw [c4b0]) | skip)
      have H' := Aside0.mk H
      clear H
      have hcz19_0 : w3.cell? ⟨gb162, 0, none⟩ = some (.int .i64 a0_0) := (blk_cell BK162.out 0).trans rfl
      have hcz19_1 : w3.cell? ⟨gb162, 1, none⟩ = some (.int .i64 a0_1) := (blk_cell BK162.out 1).trans rfl
      have hcz19_2 : w3.cell? ⟨gb162, 2, none⟩ = some (.int .i64 a0_2) := (blk_cell BK162.out 2).trans rfl
      have hcz19_3 : w3.cell? ⟨gb162, 3, none⟩ = some (.int .i64 a0_3) := (blk_cell BK162.out 3).trans rfl
      have hcz19_4 : w3.cell? ⟨gb162, 4, none⟩ = some (.int .i64 a0_4) := (blk_cell BK162.out 4).trans rfl
      have hcz19_5 : w3.cell? ⟨gb162, 5, none⟩ = some (.int .i64 a0_5) := (blk_cell BK162.out 5).trans rfl
      have hcz19_6 : w3.cell? ⟨gb162, 6, none⟩ = some (.int .i64 a0_6) := (blk_cell BK162.out 6).trans rfl
      have hcz19_7 : w3.cell? ⟨gb162, 7, none⟩ = some (.string a0_7) := (blk_cell BK162.out 7).trans rfl
      have hcz19_8 : w3.cell? ⟨gb162, 8, none⟩ = some (.int .i64 a0_8) := (blk_cell BK162.out 8).trans rfl
      have hcz19_9 : w3.cell? ⟨gb162, 9, none⟩ = some (.int .i64 a0_9) := (blk_cell BK162.out 9).trans rfl
      have hcz19_10 : w3.cell? ⟨gb162, 10, none⟩ = some (.slice A0_10 l0_10.length c0_10) := (blk_cell BK162.out 10).trans rfl
      have hcz19_11 : w3.cell? ⟨gb162, 11, none⟩ = some (.slice A0_11 l0_11.length c0_11) := (blk_cell BK162.out 11).trans rfl
      have hfz19_0 := blk_frozen BK162.out 0
      have hfz19_1 := blk_frozen BK162.out 1
      have hfz19_2 := blk_frozen BK162.out 2
      have hfz19_3 := blk_frozen BK162.out 3
      have hfz19_4 := blk_frozen BK162.out 4
      have hfz19_5 := blk_frozen BK162.out 5
      have hfz19_6 := blk_frozen BK162.out 6
      have hfz19_7 := blk_frozen BK162.out 7
      have hfz19_8 := blk_frozen BK162.out 8
      have hfz19_9 := blk_frozen BK162.out 9
      have hfz19_10 := blk_frozen BK162.out 10
      have hfz19_11 := blk_frozen BK162.out 11
      go_wp2
      go_meet
      case rel => exact ⟨_, (false), (by first | rfl | (simp; done) | (simp [*]; done)), H', ⟨by first | omega | exact Nat.le_refl _⟩, ⟨by (with_reducible repeat (first | refine blk_drewN ?_ _ | refine blk_drew ?_ | refine blk_alloc ?_ _)); exact BK162.out⟩, ⟨by repeat (first | (with_reducible first | exact HB.out | apply below_alloc | apply pw_below_drewN | apply below_drew1 | refine below_set ?_ GE162.out) | exact HB.out)⟩⟩
  case rest =>
    clear HC2
    try clear c1
    try clear p2
    try clear c4
    try clear c4b0
    try clear c5
    try clear c5b0
    try clear c7
    try clear c9
    try clear c11
    try clear c18
    try clear hcz13_0
    try clear hcz13_1
    try clear hcz13_10
    try clear hcz13_11
    try clear hcz13_2
    try clear hcz13_3
    try clear hcz13_4
    try clear hcz13_5
    try clear hcz13_6
    try clear hcz13_7
    try clear hcz13_8
    try clear hcz13_9
    try clear hcz15_0
    try clear hcz15_1
    try clear hcz15_10
    try clear hcz15_11
    try clear hcz15_2
    try clear hcz15_3
    try clear hcz15_4
    try clear hcz15_5
    try clear hcz15_6
    try clear hcz15_7
    try clear hcz15_8
    try clear hcz15_9
    try clear hcz16_0
    try clear hcz16_1
    try clear hcz16_10
    try clear hcz16_11
    try clear hcz16_2
    try clear hcz16_3
    try clear hcz16_4
    try clear hcz16_5
    try clear hcz16_6
    try clear hcz16_7
    try clear hcz16_8
    try clear hcz16_9
    try clear hcz17_0
    try clear hcz17_1
    try clear hcz17_10
    try clear hcz17_11
    try clear hcz17_2
    try clear hcz17_3
    try clear hcz17_4
    try clear hcz17_5
    try clear hcz17_6
    try clear hcz17_7
    try clear hcz17_8
    try clear hcz17_9
    try clear hcz18_0
    try clear hcz18_1
    try clear hcz18_10
    try clear hcz18_11
    try clear hcz18_2
    try clear hcz18_3
    try clear hcz18_4
    try clear hcz18_5
    try clear hcz18_6
    try clear hcz18_7
    try clear hcz18_8
    try clear hcz18_9
    try clear hcz19_0
    try clear hcz19_1
    try clear hcz19_10
    try clear hcz19_11
    try clear hcz19_2
    try clear hcz19_3
    try clear hcz19_4
    try clear hcz19_5
    try clear hcz19_6
    try clear hcz19_7
    try clear hcz19_8
    try clear hcz19_9
    try clear hfz13_0
    try clear hfz13_1
    try clear hfz13_10
    try clear hfz13_11
    try clear hfz13_2
    try clear hfz13_3
    try clear hfz13_4
    try clear hfz13_5
    try clear hfz13_6
    try clear hfz13_7
    try clear hfz13_8
    try clear hfz13_9
    try clear hfz15_0
    try clear hfz15_1
    try clear hfz15_10
    try clear hfz15_11
    try clear hfz15_2
    try clear hfz15_3
    try clear hfz15_4
    try clear hfz15_5
    try clear hfz15_6
    try clear hfz15_7
    try clear hfz15_8
    try clear hfz15_9
    try clear hfz16_0
    try clear hfz16_1
    try clear hfz16_10
    try clear hfz16_11
    try clear hfz16_2
    try clear hfz16_3
    try clear hfz16_4
    try clear hfz16_5
    try clear hfz16_6
    try clear hfz16_7
    try clear hfz16_8
    try clear hfz16_9
    try clear hfz17_0
    try clear hfz17_1
    try clear hfz17_10
    try clear hfz17_11
    try clear hfz17_2
    try clear hfz17_3
    try clear hfz17_4
    try clear hfz17_5
    try clear hfz17_6
    try clear hfz17_7
    try clear hfz17_8
    try clear hfz17_9
    try clear hfz18_0
    try clear hfz18_1
    try clear hfz18_10
    try clear hfz18_11
    try clear hfz18_2
    try clear hfz18_3
    try clear hfz18_4
    try clear hfz18_5
    try clear hfz18_6
    try clear hfz18_7
    try clear hfz18_8
    try clear hfz18_9
    try clear hfz19_0
    try clear hfz19_1
    try clear hfz19_10
    try clear hfz19_11
    try clear hfz19_2
    try clear hfz19_3
    try clear hfz19_4
    try clear hfz19_5
    try clear hfz19_6
    try clear hfz19_7
    try clear hfz19_8
    try clear hfz19_9
    obtain ⟨kq, x3_1, rfl, HA, HJ1, BK162, HB⟩ := hcut
    cases kq with
    | zero => exact absurd HA.out (by simp [gimbalref14_Check.j0])
    | succ kj1 =>
      have H := HA.out
      clear HA
      simp only [gimbalref14_Check.j0] at H
      replace H := Option.bind_eq_some_iff.mp H
      obtain ⟨t167, A200, H⟩ := H
      replace H : (if t167 = true then (gimbalref14_Check.j1 kj1 x3_1 a0_0 a0_1 a0_2 a0_3 a0_4 a0_5 a0_6 a0_7 a0_8 a0_9 l0_10 l0_11) else (if x3_1 = true then (if a0_1 = 0 then (gimbalref14_Check.j1 kj1 (a0_2 == 0) a0_0 a0_1 a0_2 a0_3 a0_4 a0_5 a0_6 a0_7 a0_8 a0_9 l0_10 l0_11) else (gimbalref14_Check.j1 kj1 false a0_0 a0_1 a0_2 a0_3 a0_4 a0_5 a0_6 a0_7 a0_8 a0_9 l0_10 l0_11)) else (gimbalref14_Check.j1 kj1 false a0_0 a0_1 a0_2 a0_3 a0_4 a0_5 a0_6 a0_7 a0_8 a0_9 l0_10 l0_11))) = some r := H
      have A20 := Aside0.mk A200
      clear A200
      have HC21 := Aside0.mk H
      clear H
      have hcz22_0 : wc.cell? ⟨gb162, 0, none⟩ = some (.int .i64 a0_0) := (blk_cell BK162.out 0).trans rfl
      have hcz22_1 : wc.cell? ⟨gb162, 1, none⟩ = some (.int .i64 a0_1) := (blk_cell BK162.out 1).trans rfl
      have hcz22_2 : wc.cell? ⟨gb162, 2, none⟩ = some (.int .i64 a0_2) := (blk_cell BK162.out 2).trans rfl
      have hcz22_3 : wc.cell? ⟨gb162, 3, none⟩ = some (.int .i64 a0_3) := (blk_cell BK162.out 3).trans rfl
      have hcz22_4 : wc.cell? ⟨gb162, 4, none⟩ = some (.int .i64 a0_4) := (blk_cell BK162.out 4).trans rfl
      have hcz22_5 : wc.cell? ⟨gb162, 5, none⟩ = some (.int .i64 a0_5) := (blk_cell BK162.out 5).trans rfl
      have hcz22_6 : wc.cell? ⟨gb162, 6, none⟩ = some (.int .i64 a0_6) := (blk_cell BK162.out 6).trans rfl
      have hcz22_7 : wc.cell? ⟨gb162, 7, none⟩ = some (.string a0_7) := (blk_cell BK162.out 7).trans rfl
      have hcz22_8 : wc.cell? ⟨gb162, 8, none⟩ = some (.int .i64 a0_8) := (blk_cell BK162.out 8).trans rfl
      have hcz22_9 : wc.cell? ⟨gb162, 9, none⟩ = some (.int .i64 a0_9) := (blk_cell BK162.out 9).trans rfl
      have hcz22_10 : wc.cell? ⟨gb162, 10, none⟩ = some (.slice A0_10 l0_10.length c0_10) := (blk_cell BK162.out 10).trans rfl
      have hcz22_11 : wc.cell? ⟨gb162, 11, none⟩ = some (.slice A0_11 l0_11.length c0_11) := (blk_cell BK162.out 11).trans rfl
      have hfz22_0 := blk_frozen BK162.out 0
      have hfz22_1 := blk_frozen BK162.out 1
      have hfz22_2 := blk_frozen BK162.out 2
      have hfz22_3 := blk_frozen BK162.out 3
      have hfz22_4 := blk_frozen BK162.out 4
      have hfz22_5 := blk_frozen BK162.out 5
      have hfz22_6 := blk_frozen BK162.out 6
      have hfz22_7 := blk_frozen BK162.out 7
      have hfz22_8 := blk_frozen BK162.out 8
      have hfz22_9 := blk_frozen BK162.out 9
      have hfz22_10 := blk_frozen BK162.out 10
      have hfz22_11 := blk_frozen BK162.out 11
      go_upto_if 34 with (first | ((with_reducible refine gate_callee (f := 47) rfl ?_); refine goesL_ (some 33) rfl rfl Tryd.func47 (by kernel_rfl) rfl #[.int .i64 a0_0] rfl (by (try simp only [List.map_toArray, List.map_cons, List.map_nil]); first | done | rfl | (simp only [List.length_drop, List.length_take]; rfl)) ?_; (with_reducible refine (gimbalref14_hasView.calls a0_0 t167 _ A20.out).mono ?_); rintro e w' ⟨rfl, ⟨nd, rfl⟩⟩; refine ⟨_, rfl, ?_⟩))
      (try simp only [Act.put, List.setIfInBounds_toArray, List.set_cons_zero, List.set_cons_succ])
      go_cut [3] (fun v3 wc => ∃ (kq : Nat) (x3_20 : Bool), v3 = .bool x3_20 ∧ Aside0 (gimbalref14_Check.j1 kq x3_20 a0_0 a0_1 a0_2 a0_3 a0_4 a0_5 a0_6 a0_7 a0_8 a0_9 l0_10 l0_11 = some r) ∧ Aside0 (kq ≤ kj1) ∧ Aside0 (wc.heap[gb162]? = some (.cells #[.int .i64 a0_0, .int .i64 a0_1, .int .i64 a0_2, .int .i64 a0_3, .int .i64 a0_4, .int .i64 a0_5, .int .i64 a0_6, .string a0_7, .int .i64 a0_8, .int .i64 a0_9, (.slice A0_10 l0_10.length c0_10), (.slice A0_11 l0_11.length c0_11)] 41 (0, 0))) ∧ Aside0 (Below w.heap.size w wc))
      case first =>
        have H := HC21.out
        clear HC21
        by_cases c23 : t167 = true
        · subst c23
          have H1 : (gimbalref14_Check.j1 kj1 x3_1 a0_0 a0_1 a0_2 a0_3 a0_4 a0_5 a0_6 a0_7 a0_8 a0_9 l0_10 l0_11) = some r := by rw [if_pos rfl] at H; exact H
          clear H
          have H := H1
          clear H1
          have H' := Aside0.mk H
          clear H
          go_wp2
          go_meet
          case rel => exact ⟨_, (x3_1), (by first | rfl | (simp; done) | (simp [*]; done)), H', ⟨by have := HJ1.out; first | omega | exact Nat.le_refl _⟩, ⟨by (with_reducible repeat (first | refine blk_drewN ?_ _ | refine blk_drew ?_ | refine blk_alloc ?_ _)); exact BK162.out⟩, ⟨by repeat (first | (with_reducible first | exact HB.out | apply below_alloc | apply pw_below_drewN | apply below_drew1 | refine below_set ?_ GE162.out) | exact HB.out)⟩⟩
        · replace c23 := Bool.eq_false_iff.mpr c23
          subst c23
          have H1 : (if x3_1 = true then (if a0_1 = 0 then (gimbalref14_Check.j1 kj1 (a0_2 == 0) a0_0 a0_1 a0_2 a0_3 a0_4 a0_5 a0_6 a0_7 a0_8 a0_9 l0_10 l0_11) else (gimbalref14_Check.j1 kj1 false a0_0 a0_1 a0_2 a0_3 a0_4 a0_5 a0_6 a0_7 a0_8 a0_9 l0_10 l0_11)) else (gimbalref14_Check.j1 kj1 false a0_0 a0_1 a0_2 a0_3 a0_4 a0_5 a0_6 a0_7 a0_8 a0_9 l0_10 l0_11)) = some r := by rw [if_neg (show ¬ (false = true) by decide)] at H; exact H
          clear H
          have H := H1
          clear H1
          by_cases c24 : x3_1 = true
          · subst c24
            have H1 : (if a0_1 = 0 then (gimbalref14_Check.j1 kj1 (a0_2 == 0) a0_0 a0_1 a0_2 a0_3 a0_4 a0_5 a0_6 a0_7 a0_8 a0_9 l0_10 l0_11) else (gimbalref14_Check.j1 kj1 false a0_0 a0_1 a0_2 a0_3 a0_4 a0_5 a0_6 a0_7 a0_8 a0_9 l0_10 l0_11)) = some r := by rw [if_pos rfl] at H; exact H
            clear H
            have H := H1
            clear H1
            by_cases c25 : a0_1 = 0
            · rw [if_pos c25] at H
              have c25b0 : (a0_1 == 0) = true := beq_iff_eq.mpr c25
              have c25b1 : (a0_1 != 0) = false := bne_eq_false_iff_eq.mpr c25
              clear c25
              (first | rw [c25b0] | (simp only [i64_w, i32_w]; rw [c25b0]) | skip)
              have H' := Aside0.mk H
              clear H
              have hcz26_0 : wc.cell? ⟨gb162, 0, none⟩ = some (.int .i64 a0_0) := (blk_cell BK162.out 0).trans rfl
              have hcz26_1 : wc.cell? ⟨gb162, 1, none⟩ = some (.int .i64 a0_1) := (blk_cell BK162.out 1).trans rfl
              have hcz26_2 : wc.cell? ⟨gb162, 2, none⟩ = some (.int .i64 a0_2) := (blk_cell BK162.out 2).trans rfl
              have hcz26_3 : wc.cell? ⟨gb162, 3, none⟩ = some (.int .i64 a0_3) := (blk_cell BK162.out 3).trans rfl
              have hcz26_4 : wc.cell? ⟨gb162, 4, none⟩ = some (.int .i64 a0_4) := (blk_cell BK162.out 4).trans rfl
              have hcz26_5 : wc.cell? ⟨gb162, 5, none⟩ = some (.int .i64 a0_5) := (blk_cell BK162.out 5).trans rfl
              have hcz26_6 : wc.cell? ⟨gb162, 6, none⟩ = some (.int .i64 a0_6) := (blk_cell BK162.out 6).trans rfl
              have hcz26_7 : wc.cell? ⟨gb162, 7, none⟩ = some (.string a0_7) := (blk_cell BK162.out 7).trans rfl
              have hcz26_8 : wc.cell? ⟨gb162, 8, none⟩ = some (.int .i64 a0_8) := (blk_cell BK162.out 8).trans rfl
              have hcz26_9 : wc.cell? ⟨gb162, 9, none⟩ = some (.int .i64 a0_9) := (blk_cell BK162.out 9).trans rfl
              have hcz26_10 : wc.cell? ⟨gb162, 10, none⟩ = some (.slice A0_10 l0_10.length c0_10) := (blk_cell BK162.out 10).trans rfl
              have hcz26_11 : wc.cell? ⟨gb162, 11, none⟩ = some (.slice A0_11 l0_11.length c0_11) := (blk_cell BK162.out 11).trans rfl
              have hfz26_0 := blk_frozen BK162.out 0
              have hfz26_1 := blk_frozen BK162.out 1
              have hfz26_2 := blk_frozen BK162.out 2
              have hfz26_3 := blk_frozen BK162.out 3
              have hfz26_4 := blk_frozen BK162.out 4
              have hfz26_5 := blk_frozen BK162.out 5
              have hfz26_6 := blk_frozen BK162.out 6
              have hfz26_7 := blk_frozen BK162.out 7
              have hfz26_8 := blk_frozen BK162.out 8
              have hfz26_9 := blk_frozen BK162.out 9
              have hfz26_10 := blk_frozen BK162.out 10
              have hfz26_11 := blk_frozen BK162.out 11
              go_wp2
              go_meet
              case rel => exact ⟨_, ((a0_2 == 0)), (by first | rfl | (simp; done) | (simp [*]; done)), H', ⟨by have := HJ1.out; first | omega | exact Nat.le_refl _⟩, ⟨by (with_reducible repeat (first | refine blk_drewN ?_ _ | refine blk_drew ?_ | refine blk_alloc ?_ _)); exact BK162.out⟩, ⟨by repeat (first | (with_reducible first | exact HB.out | apply below_alloc | apply pw_below_drewN | apply below_drew1 | refine below_set ?_ GE162.out) | exact HB.out)⟩⟩
            · rw [if_neg c25] at H
              have c25b0 : (a0_1 == 0) = false := beq_eq_false_iff_ne.mpr c25
              have c25b1 : (a0_1 != 0) = true := bne_iff_ne.mpr c25
              (first | rw [c25b0] | (simp only [i64_w, i32_w]; rw [c25b0]) | skip)
              have H' := Aside0.mk H
              clear H
              have hcz27_0 : wc.cell? ⟨gb162, 0, none⟩ = some (.int .i64 a0_0) := (blk_cell BK162.out 0).trans rfl
              have hcz27_1 : wc.cell? ⟨gb162, 1, none⟩ = some (.int .i64 a0_1) := (blk_cell BK162.out 1).trans rfl
              have hcz27_2 : wc.cell? ⟨gb162, 2, none⟩ = some (.int .i64 a0_2) := (blk_cell BK162.out 2).trans rfl
              have hcz27_3 : wc.cell? ⟨gb162, 3, none⟩ = some (.int .i64 a0_3) := (blk_cell BK162.out 3).trans rfl
              have hcz27_4 : wc.cell? ⟨gb162, 4, none⟩ = some (.int .i64 a0_4) := (blk_cell BK162.out 4).trans rfl
              have hcz27_5 : wc.cell? ⟨gb162, 5, none⟩ = some (.int .i64 a0_5) := (blk_cell BK162.out 5).trans rfl
              have hcz27_6 : wc.cell? ⟨gb162, 6, none⟩ = some (.int .i64 a0_6) := (blk_cell BK162.out 6).trans rfl
              have hcz27_7 : wc.cell? ⟨gb162, 7, none⟩ = some (.string a0_7) := (blk_cell BK162.out 7).trans rfl
              have hcz27_8 : wc.cell? ⟨gb162, 8, none⟩ = some (.int .i64 a0_8) := (blk_cell BK162.out 8).trans rfl
              have hcz27_9 : wc.cell? ⟨gb162, 9, none⟩ = some (.int .i64 a0_9) := (blk_cell BK162.out 9).trans rfl
              have hcz27_10 : wc.cell? ⟨gb162, 10, none⟩ = some (.slice A0_10 l0_10.length c0_10) := (blk_cell BK162.out 10).trans rfl
              have hcz27_11 : wc.cell? ⟨gb162, 11, none⟩ = some (.slice A0_11 l0_11.length c0_11) := (blk_cell BK162.out 11).trans rfl
              have hfz27_0 := blk_frozen BK162.out 0
              have hfz27_1 := blk_frozen BK162.out 1
              have hfz27_2 := blk_frozen BK162.out 2
              have hfz27_3 := blk_frozen BK162.out 3
              have hfz27_4 := blk_frozen BK162.out 4
              have hfz27_5 := blk_frozen BK162.out 5
              have hfz27_6 := blk_frozen BK162.out 6
              have hfz27_7 := blk_frozen BK162.out 7
              have hfz27_8 := blk_frozen BK162.out 8
              have hfz27_9 := blk_frozen BK162.out 9
              have hfz27_10 := blk_frozen BK162.out 10
              have hfz27_11 := blk_frozen BK162.out 11
              go_wp2
              go_meet
              case rel => exact ⟨_, (false), (by first | rfl | (simp; done) | (simp [*]; done)), H', ⟨by have := HJ1.out; first | omega | exact Nat.le_refl _⟩, ⟨by (with_reducible repeat (first | refine blk_drewN ?_ _ | refine blk_drew ?_ | refine blk_alloc ?_ _)); exact BK162.out⟩, ⟨by repeat (first | (with_reducible first | exact HB.out | apply below_alloc | apply pw_below_drewN | apply below_drew1 | refine below_set ?_ GE162.out) | exact HB.out)⟩⟩
          · replace c24 := Bool.eq_false_iff.mpr c24
            subst c24
            have H1 : (gimbalref14_Check.j1 kj1 false a0_0 a0_1 a0_2 a0_3 a0_4 a0_5 a0_6 a0_7 a0_8 a0_9 l0_10 l0_11) = some r := by rw [if_neg (show ¬ (false = true) by decide)] at H; exact H
            clear H
            have H := H1
            clear H1
            have H' := Aside0.mk H
            clear H
            go_wp2
            go_meet
            case rel => exact ⟨_, (false), (by first | rfl | (simp; done) | (simp [*]; done)), H', ⟨by have := HJ1.out; first | omega | exact Nat.le_refl _⟩, ⟨by (with_reducible repeat (first | refine blk_drewN ?_ _ | refine blk_drew ?_ | refine blk_alloc ?_ _)); exact BK162.out⟩, ⟨by repeat (first | (with_reducible first | exact HB.out | apply below_alloc | apply pw_below_drewN | apply below_drew1 | refine below_set ?_ GE162.out) | exact HB.out)⟩⟩
      case rest =>
        clear HC21
        try clear c1
        try clear c2
        try clear p2
        try clear c4
        try clear c4b0
        try clear c5
        try clear c5b0
        try clear c7
        try clear c9
        try clear c11
        try clear c18
        try clear c23
        try clear c24
        try clear c25
        try clear c25b0
        try clear c25b1
        try clear hcz13_0
        try clear hcz13_1
        try clear hcz13_10
        try clear hcz13_11
        try clear hcz13_2
        try clear hcz13_3
        try clear hcz13_4
        try clear hcz13_5
        try clear hcz13_6
        try clear hcz13_7
        try clear hcz13_8
        try clear hcz13_9
        try clear hcz15_0
        try clear hcz15_1
        try clear hcz15_10
        try clear hcz15_11
        try clear hcz15_2
        try clear hcz15_3
        try clear hcz15_4
        try clear hcz15_5
        try clear hcz15_6
        try clear hcz15_7
        try clear hcz15_8
        try clear hcz15_9
        try clear hcz16_0
        try clear hcz16_1
        try clear hcz16_10
        try clear hcz16_11
        try clear hcz16_2
        try clear hcz16_3
        try clear hcz16_4
        try clear hcz16_5
        try clear hcz16_6
        try clear hcz16_7
        try clear hcz16_8
        try clear hcz16_9
        try clear hcz17_0
        try clear hcz17_1
        try clear hcz17_10
        try clear hcz17_11
        try clear hcz17_2
        try clear hcz17_3
        try clear hcz17_4
        try clear hcz17_5
        try clear hcz17_6
        try clear hcz17_7
        try clear hcz17_8
        try clear hcz17_9
        try clear hcz18_0
        try clear hcz18_1
        try clear hcz18_10
        try clear hcz18_11
        try clear hcz18_2
        try clear hcz18_3
        try clear hcz18_4
        try clear hcz18_5
        try clear hcz18_6
        try clear hcz18_7
        try clear hcz18_8
        try clear hcz18_9
        try clear hcz19_0
        try clear hcz19_1
        try clear hcz19_10
        try clear hcz19_11
        try clear hcz19_2
        try clear hcz19_3
        try clear hcz19_4
        try clear hcz19_5
        try clear hcz19_6
        try clear hcz19_7
        try clear hcz19_8
        try clear hcz19_9
        try clear hcz22_0
        try clear hcz22_1
        try clear hcz22_10
        try clear hcz22_11
        try clear hcz22_2
        try clear hcz22_3
        try clear hcz22_4
        try clear hcz22_5
        try clear hcz22_6
        try clear hcz22_7
        try clear hcz22_8
        try clear hcz22_9
        try clear hcz26_0
        try clear hcz26_1
        try clear hcz26_10
        try clear hcz26_11
        try clear hcz26_2
        try clear hcz26_3
        try clear hcz26_4
        try clear hcz26_5
        try clear hcz26_6
        try clear hcz26_7
        try clear hcz26_8
        try clear hcz26_9
        try clear hcz27_0
        try clear hcz27_1
        try clear hcz27_10
        try clear hcz27_11
        try clear hcz27_2
        try clear hcz27_3
        try clear hcz27_4
        try clear hcz27_5
        try clear hcz27_6
        try clear hcz27_7
        try clear hcz27_8
        try clear hcz27_9
        try clear hfz13_0
        try clear hfz13_1
        try clear hfz13_10
        try clear hfz13_11
        try clear hfz13_2
        try clear hfz13_3
        try clear hfz13_4
        try clear hfz13_5
        try clear hfz13_6
        try clear hfz13_7
        try clear hfz13_8
        try clear hfz13_9
        try clear hfz15_0
        try clear hfz15_1
        try clear hfz15_10
        try clear hfz15_11
        try clear hfz15_2
        try clear hfz15_3
        try clear hfz15_4
        try clear hfz15_5
        try clear hfz15_6
        try clear hfz15_7
        try clear hfz15_8
        try clear hfz15_9
        try clear hfz16_0
        try clear hfz16_1
        try clear hfz16_10
        try clear hfz16_11
        try clear hfz16_2
        try clear hfz16_3
        try clear hfz16_4
        try clear hfz16_5
        try clear hfz16_6
        try clear hfz16_7
        try clear hfz16_8
        try clear hfz16_9
        try clear hfz17_0
        try clear hfz17_1
        try clear hfz17_10
        try clear hfz17_11
        try clear hfz17_2
        try clear hfz17_3
        try clear hfz17_4
        try clear hfz17_5
        try clear hfz17_6
        try clear hfz17_7
        try clear hfz17_8
        try clear hfz17_9
        try clear hfz18_0
        try clear hfz18_1
        try clear hfz18_10
        try clear hfz18_11
        try clear hfz18_2
        try clear hfz18_3
        try clear hfz18_4
        try clear hfz18_5
        try clear hfz18_6
        try clear hfz18_7
        try clear hfz18_8
        try clear hfz18_9
        try clear hfz19_0
        try clear hfz19_1
        try clear hfz19_10
        try clear hfz19_11
        try clear hfz19_2
        try clear hfz19_3
        try clear hfz19_4
        try clear hfz19_5
        try clear hfz19_6
        try clear hfz19_7
        try clear hfz19_8
        try clear hfz19_9
        try clear hfz22_0
        try clear hfz22_1
        try clear hfz22_10
        try clear hfz22_11
        try clear hfz22_2
        try clear hfz22_3
        try clear hfz22_4
        try clear hfz22_5
        try clear hfz22_6
        try clear hfz22_7
        try clear hfz22_8
        try clear hfz22_9
        try clear hfz26_0
        try clear hfz26_1
        try clear hfz26_10
        try clear hfz26_11
        try clear hfz26_2
        try clear hfz26_3
        try clear hfz26_4
        try clear hfz26_5
        try clear hfz26_6
        try clear hfz26_7
        try clear hfz26_8
        try clear hfz26_9
        try clear hfz27_0
        try clear hfz27_1
        try clear hfz27_10
        try clear hfz27_11
        try clear hfz27_2
        try clear hfz27_3
        try clear hfz27_4
        try clear hfz27_5
        try clear hfz27_6
        try clear hfz27_7
        try clear hfz27_8
        try clear hfz27_9
        try clear p2
        obtain ⟨kq, x3_20, rfl, HA, HJ20, BK162, HB⟩ := hcut
        cases kq with
        | zero => exact absurd HA.out (by simp [gimbalref14_Check.j1])
        | succ kj20 =>
          have H := HA.out
          clear HA
          simp only [gimbalref14_Check.j1] at H
          replace H := Option.bind_eq_some_iff.mp H
          obtain ⟨t168, A280, H⟩ := H
          replace H : (if t168 = true then (if x3_20 = true then (some 0) else (some 2)) else (if x3_20 = true then (if a0_3 = 0 then (some 0) else (some 2)) else (some 2))) = some r := H
          have A28 := Aside0.mk A280
          clear A280
          by_cases c29 : t168 = true
          · subst c29
            have H1 : (if x3_20 = true then (some 0) else (some 2)) = some r := by rw [if_pos rfl] at H; exact H
            clear H
            have H := H1
            clear H1
            by_cases c30 : x3_20 = true
            · subst c30
              have H1 : (some 0) = some r := by rw [if_pos rfl] at H; exact H
              clear H
              have H := H1
              clear H1
              obtain rfl := Option.some.inj H
              have hcz31_0 : wc.cell? ⟨gb162, 0, none⟩ = some (.int .i64 a0_0) := (blk_cell BK162.out 0).trans rfl
              have hcz31_1 : wc.cell? ⟨gb162, 1, none⟩ = some (.int .i64 a0_1) := (blk_cell BK162.out 1).trans rfl
              have hcz31_2 : wc.cell? ⟨gb162, 2, none⟩ = some (.int .i64 a0_2) := (blk_cell BK162.out 2).trans rfl
              have hcz31_3 : wc.cell? ⟨gb162, 3, none⟩ = some (.int .i64 a0_3) := (blk_cell BK162.out 3).trans rfl
              have hcz31_4 : wc.cell? ⟨gb162, 4, none⟩ = some (.int .i64 a0_4) := (blk_cell BK162.out 4).trans rfl
              have hcz31_5 : wc.cell? ⟨gb162, 5, none⟩ = some (.int .i64 a0_5) := (blk_cell BK162.out 5).trans rfl
              have hcz31_6 : wc.cell? ⟨gb162, 6, none⟩ = some (.int .i64 a0_6) := (blk_cell BK162.out 6).trans rfl
              have hcz31_7 : wc.cell? ⟨gb162, 7, none⟩ = some (.string a0_7) := (blk_cell BK162.out 7).trans rfl
              have hcz31_8 : wc.cell? ⟨gb162, 8, none⟩ = some (.int .i64 a0_8) := (blk_cell BK162.out 8).trans rfl
              have hcz31_9 : wc.cell? ⟨gb162, 9, none⟩ = some (.int .i64 a0_9) := (blk_cell BK162.out 9).trans rfl
              have hcz31_10 : wc.cell? ⟨gb162, 10, none⟩ = some (.slice A0_10 l0_10.length c0_10) := (blk_cell BK162.out 10).trans rfl
              have hcz31_11 : wc.cell? ⟨gb162, 11, none⟩ = some (.slice A0_11 l0_11.length c0_11) := (blk_cell BK162.out 11).trans rfl
              have hfz31_0 := blk_frozen BK162.out 0
              have hfz31_1 := blk_frozen BK162.out 1
              have hfz31_2 := blk_frozen BK162.out 2
              have hfz31_3 := blk_frozen BK162.out 3
              have hfz31_4 := blk_frozen BK162.out 4
              have hfz31_5 := blk_frozen BK162.out 5
              have hfz31_6 := blk_frozen BK162.out 6
              have hfz31_7 := blk_frozen BK162.out 7
              have hfz31_8 := blk_frozen BK162.out 8
              have hfz31_9 := blk_frozen BK162.out 9
              have hfz31_10 := blk_frozen BK162.out 10
              have hfz31_11 := blk_frozen BK162.out 11
              go_wp2_with (first | ((with_reducible refine gate_callee (f := 48) rfl ?_); refine goesL_ (some 48) rfl rfl Tryd.func48 (by kernel_rfl) rfl #[.int .i64 a0_0] rfl (by (try simp only [List.map_toArray, List.map_cons, List.map_nil]); first | done | rfl | (simp only [List.length_drop, List.length_take]; rfl)) ?_; (with_reducible refine (gimbalref14_hasOp.calls a0_0 true _ A28.out).mono ?_); rintro e w' ⟨rfl, ⟨nd, rfl⟩⟩; refine ⟨_, rfl, ?_⟩))
              go_ret
              exact ⟨by first | rfl | (simp [errW_none, errW_some] <;> rfl) | (simp [*, errW_none, errW_some] <;> rfl), by repeat (first | (with_reducible first | exact HB.out | apply below_alloc | apply pw_below_drewN | apply below_drew1 | refine below_set ?_ GE162.out) | exact HB.out)⟩
            · replace c30 := Bool.eq_false_iff.mpr c30
              subst c30
              have H1 : (some 2) = some r := by rw [if_neg (show ¬ (false = true) by decide)] at H; exact H
              clear H
              have H := H1
              clear H1
              obtain rfl := Option.some.inj H
              have hcz32_0 : wc.cell? ⟨gb162, 0, none⟩ = some (.int .i64 a0_0) := (blk_cell BK162.out 0).trans rfl
              have hcz32_1 : wc.cell? ⟨gb162, 1, none⟩ = some (.int .i64 a0_1) := (blk_cell BK162.out 1).trans rfl
              have hcz32_2 : wc.cell? ⟨gb162, 2, none⟩ = some (.int .i64 a0_2) := (blk_cell BK162.out 2).trans rfl
              have hcz32_3 : wc.cell? ⟨gb162, 3, none⟩ = some (.int .i64 a0_3) := (blk_cell BK162.out 3).trans rfl
              have hcz32_4 : wc.cell? ⟨gb162, 4, none⟩ = some (.int .i64 a0_4) := (blk_cell BK162.out 4).trans rfl
              have hcz32_5 : wc.cell? ⟨gb162, 5, none⟩ = some (.int .i64 a0_5) := (blk_cell BK162.out 5).trans rfl
              have hcz32_6 : wc.cell? ⟨gb162, 6, none⟩ = some (.int .i64 a0_6) := (blk_cell BK162.out 6).trans rfl
              have hcz32_7 : wc.cell? ⟨gb162, 7, none⟩ = some (.string a0_7) := (blk_cell BK162.out 7).trans rfl
              have hcz32_8 : wc.cell? ⟨gb162, 8, none⟩ = some (.int .i64 a0_8) := (blk_cell BK162.out 8).trans rfl
              have hcz32_9 : wc.cell? ⟨gb162, 9, none⟩ = some (.int .i64 a0_9) := (blk_cell BK162.out 9).trans rfl
              have hcz32_10 : wc.cell? ⟨gb162, 10, none⟩ = some (.slice A0_10 l0_10.length c0_10) := (blk_cell BK162.out 10).trans rfl
              have hcz32_11 : wc.cell? ⟨gb162, 11, none⟩ = some (.slice A0_11 l0_11.length c0_11) := (blk_cell BK162.out 11).trans rfl
              have hfz32_0 := blk_frozen BK162.out 0
              have hfz32_1 := blk_frozen BK162.out 1
              have hfz32_2 := blk_frozen BK162.out 2
              have hfz32_3 := blk_frozen BK162.out 3
              have hfz32_4 := blk_frozen BK162.out 4
              have hfz32_5 := blk_frozen BK162.out 5
              have hfz32_6 := blk_frozen BK162.out 6
              have hfz32_7 := blk_frozen BK162.out 7
              have hfz32_8 := blk_frozen BK162.out 8
              have hfz32_9 := blk_frozen BK162.out 9
              have hfz32_10 := blk_frozen BK162.out 10
              have hfz32_11 := blk_frozen BK162.out 11
              go_wp2_with (first | ((with_reducible refine gate_callee (f := 48) rfl ?_); refine goesL_ (some 48) rfl rfl Tryd.func48 (by kernel_rfl) rfl #[.int .i64 a0_0] rfl (by (try simp only [List.map_toArray, List.map_cons, List.map_nil]); first | done | rfl | (simp only [List.length_drop, List.length_take]; rfl)) ?_; (with_reducible refine (gimbalref14_hasOp.calls a0_0 true _ A28.out).mono ?_); rintro e w' ⟨rfl, ⟨nd, rfl⟩⟩; refine ⟨_, rfl, ?_⟩))
              go_ret
              exact ⟨by first | rfl | (simp [errW_none, errW_some] <;> rfl) | (simp [*, errW_none, errW_some] <;> rfl), by repeat (first | (with_reducible first | exact HB.out | apply below_alloc | apply pw_below_drewN | apply below_drew1 | refine below_set ?_ GE162.out) | exact HB.out)⟩
          · replace c29 := Bool.eq_false_iff.mpr c29
            subst c29
            have H1 : (if x3_20 = true then (if a0_3 = 0 then (some 0) else (some 2)) else (some 2)) = some r := by rw [if_neg (show ¬ (false = true) by decide)] at H; exact H
            clear H
            have H := H1
            clear H1
            by_cases c33 : x3_20 = true
            · subst c33
              have H1 : (if a0_3 = 0 then (some 0) else (some 2)) = some r := by rw [if_pos rfl] at H; exact H
              clear H
              have H := H1
              clear H1
              by_cases c34 : a0_3 = 0
              · rw [if_pos c34] at H
                have c34b0 : (a0_3 == 0) = true := beq_iff_eq.mpr c34
                have c34b1 : (a0_3 != 0) = false := bne_eq_false_iff_eq.mpr c34
                clear c34
                obtain rfl := Option.some.inj H
                have hcz35_0 : wc.cell? ⟨gb162, 0, none⟩ = some (.int .i64 a0_0) := (blk_cell BK162.out 0).trans rfl
                have hcz35_1 : wc.cell? ⟨gb162, 1, none⟩ = some (.int .i64 a0_1) := (blk_cell BK162.out 1).trans rfl
                have hcz35_2 : wc.cell? ⟨gb162, 2, none⟩ = some (.int .i64 a0_2) := (blk_cell BK162.out 2).trans rfl
                have hcz35_3 : wc.cell? ⟨gb162, 3, none⟩ = some (.int .i64 a0_3) := (blk_cell BK162.out 3).trans rfl
                have hcz35_4 : wc.cell? ⟨gb162, 4, none⟩ = some (.int .i64 a0_4) := (blk_cell BK162.out 4).trans rfl
                have hcz35_5 : wc.cell? ⟨gb162, 5, none⟩ = some (.int .i64 a0_5) := (blk_cell BK162.out 5).trans rfl
                have hcz35_6 : wc.cell? ⟨gb162, 6, none⟩ = some (.int .i64 a0_6) := (blk_cell BK162.out 6).trans rfl
                have hcz35_7 : wc.cell? ⟨gb162, 7, none⟩ = some (.string a0_7) := (blk_cell BK162.out 7).trans rfl
                have hcz35_8 : wc.cell? ⟨gb162, 8, none⟩ = some (.int .i64 a0_8) := (blk_cell BK162.out 8).trans rfl
                have hcz35_9 : wc.cell? ⟨gb162, 9, none⟩ = some (.int .i64 a0_9) := (blk_cell BK162.out 9).trans rfl
                have hcz35_10 : wc.cell? ⟨gb162, 10, none⟩ = some (.slice A0_10 l0_10.length c0_10) := (blk_cell BK162.out 10).trans rfl
                have hcz35_11 : wc.cell? ⟨gb162, 11, none⟩ = some (.slice A0_11 l0_11.length c0_11) := (blk_cell BK162.out 11).trans rfl
                have hfz35_0 := blk_frozen BK162.out 0
                have hfz35_1 := blk_frozen BK162.out 1
                have hfz35_2 := blk_frozen BK162.out 2
                have hfz35_3 := blk_frozen BK162.out 3
                have hfz35_4 := blk_frozen BK162.out 4
                have hfz35_5 := blk_frozen BK162.out 5
                have hfz35_6 := blk_frozen BK162.out 6
                have hfz35_7 := blk_frozen BK162.out 7
                have hfz35_8 := blk_frozen BK162.out 8
                have hfz35_9 := blk_frozen BK162.out 9
                have hfz35_10 := blk_frozen BK162.out 10
                have hfz35_11 := blk_frozen BK162.out 11
                go_wp2_with (first | ((with_reducible refine gate_callee (f := 48) rfl ?_); refine goesL_ (some 48) rfl rfl Tryd.func48 (by kernel_rfl) rfl #[.int .i64 a0_0] rfl (by (try simp only [List.map_toArray, List.map_cons, List.map_nil]); first | done | rfl | (simp only [List.length_drop, List.length_take]; rfl)) ?_; (with_reducible refine (gimbalref14_hasOp.calls a0_0 false _ A28.out).mono ?_); rintro e w' ⟨rfl, ⟨nd, rfl⟩⟩; refine ⟨_, rfl, ?_⟩))
                go_ret
                exact ⟨by first | rfl | (simp [errW_none, errW_some] <;> rfl) | (simp [*, errW_none, errW_some] <;> rfl), by repeat (first | (with_reducible first | exact HB.out | apply below_alloc | apply pw_below_drewN | apply below_drew1 | refine below_set ?_ GE162.out) | exact HB.out)⟩
              · rw [if_neg c34] at H
                have c34b0 : (a0_3 == 0) = false := beq_eq_false_iff_ne.mpr c34
                have c34b1 : (a0_3 != 0) = true := bne_iff_ne.mpr c34
                obtain rfl := Option.some.inj H
                have hcz36_0 : wc.cell? ⟨gb162, 0, none⟩ = some (.int .i64 a0_0) := (blk_cell BK162.out 0).trans rfl
                have hcz36_1 : wc.cell? ⟨gb162, 1, none⟩ = some (.int .i64 a0_1) := (blk_cell BK162.out 1).trans rfl
                have hcz36_2 : wc.cell? ⟨gb162, 2, none⟩ = some (.int .i64 a0_2) := (blk_cell BK162.out 2).trans rfl
                have hcz36_3 : wc.cell? ⟨gb162, 3, none⟩ = some (.int .i64 a0_3) := (blk_cell BK162.out 3).trans rfl
                have hcz36_4 : wc.cell? ⟨gb162, 4, none⟩ = some (.int .i64 a0_4) := (blk_cell BK162.out 4).trans rfl
                have hcz36_5 : wc.cell? ⟨gb162, 5, none⟩ = some (.int .i64 a0_5) := (blk_cell BK162.out 5).trans rfl
                have hcz36_6 : wc.cell? ⟨gb162, 6, none⟩ = some (.int .i64 a0_6) := (blk_cell BK162.out 6).trans rfl
                have hcz36_7 : wc.cell? ⟨gb162, 7, none⟩ = some (.string a0_7) := (blk_cell BK162.out 7).trans rfl
                have hcz36_8 : wc.cell? ⟨gb162, 8, none⟩ = some (.int .i64 a0_8) := (blk_cell BK162.out 8).trans rfl
                have hcz36_9 : wc.cell? ⟨gb162, 9, none⟩ = some (.int .i64 a0_9) := (blk_cell BK162.out 9).trans rfl
                have hcz36_10 : wc.cell? ⟨gb162, 10, none⟩ = some (.slice A0_10 l0_10.length c0_10) := (blk_cell BK162.out 10).trans rfl
                have hcz36_11 : wc.cell? ⟨gb162, 11, none⟩ = some (.slice A0_11 l0_11.length c0_11) := (blk_cell BK162.out 11).trans rfl
                have hfz36_0 := blk_frozen BK162.out 0
                have hfz36_1 := blk_frozen BK162.out 1
                have hfz36_2 := blk_frozen BK162.out 2
                have hfz36_3 := blk_frozen BK162.out 3
                have hfz36_4 := blk_frozen BK162.out 4
                have hfz36_5 := blk_frozen BK162.out 5
                have hfz36_6 := blk_frozen BK162.out 6
                have hfz36_7 := blk_frozen BK162.out 7
                have hfz36_8 := blk_frozen BK162.out 8
                have hfz36_9 := blk_frozen BK162.out 9
                have hfz36_10 := blk_frozen BK162.out 10
                have hfz36_11 := blk_frozen BK162.out 11
                go_wp2_with (first | ((with_reducible refine gate_callee (f := 48) rfl ?_); refine goesL_ (some 48) rfl rfl Tryd.func48 (by kernel_rfl) rfl #[.int .i64 a0_0] rfl (by (try simp only [List.map_toArray, List.map_cons, List.map_nil]); first | done | rfl | (simp only [List.length_drop, List.length_take]; rfl)) ?_; (with_reducible refine (gimbalref14_hasOp.calls a0_0 false _ A28.out).mono ?_); rintro e w' ⟨rfl, ⟨nd, rfl⟩⟩; refine ⟨_, rfl, ?_⟩))
                go_ret
                exact ⟨by first | rfl | (simp [errW_none, errW_some] <;> rfl) | (simp [*, errW_none, errW_some] <;> rfl), by repeat (first | (with_reducible first | exact HB.out | apply below_alloc | apply pw_below_drewN | apply below_drew1 | refine below_set ?_ GE162.out) | exact HB.out)⟩
            · replace c33 := Bool.eq_false_iff.mpr c33
              subst c33
              have H1 : (some 2) = some r := by rw [if_neg (show ¬ (false = true) by decide)] at H; exact H
              clear H
              have H := H1
              clear H1
              obtain rfl := Option.some.inj H
              have hcz37_0 : wc.cell? ⟨gb162, 0, none⟩ = some (.int .i64 a0_0) := (blk_cell BK162.out 0).trans rfl
              have hcz37_1 : wc.cell? ⟨gb162, 1, none⟩ = some (.int .i64 a0_1) := (blk_cell BK162.out 1).trans rfl
              have hcz37_2 : wc.cell? ⟨gb162, 2, none⟩ = some (.int .i64 a0_2) := (blk_cell BK162.out 2).trans rfl
              have hcz37_3 : wc.cell? ⟨gb162, 3, none⟩ = some (.int .i64 a0_3) := (blk_cell BK162.out 3).trans rfl
              have hcz37_4 : wc.cell? ⟨gb162, 4, none⟩ = some (.int .i64 a0_4) := (blk_cell BK162.out 4).trans rfl
              have hcz37_5 : wc.cell? ⟨gb162, 5, none⟩ = some (.int .i64 a0_5) := (blk_cell BK162.out 5).trans rfl
              have hcz37_6 : wc.cell? ⟨gb162, 6, none⟩ = some (.int .i64 a0_6) := (blk_cell BK162.out 6).trans rfl
              have hcz37_7 : wc.cell? ⟨gb162, 7, none⟩ = some (.string a0_7) := (blk_cell BK162.out 7).trans rfl
              have hcz37_8 : wc.cell? ⟨gb162, 8, none⟩ = some (.int .i64 a0_8) := (blk_cell BK162.out 8).trans rfl
              have hcz37_9 : wc.cell? ⟨gb162, 9, none⟩ = some (.int .i64 a0_9) := (blk_cell BK162.out 9).trans rfl
              have hcz37_10 : wc.cell? ⟨gb162, 10, none⟩ = some (.slice A0_10 l0_10.length c0_10) := (blk_cell BK162.out 10).trans rfl
              have hcz37_11 : wc.cell? ⟨gb162, 11, none⟩ = some (.slice A0_11 l0_11.length c0_11) := (blk_cell BK162.out 11).trans rfl
              have hfz37_0 := blk_frozen BK162.out 0
              have hfz37_1 := blk_frozen BK162.out 1
              have hfz37_2 := blk_frozen BK162.out 2
              have hfz37_3 := blk_frozen BK162.out 3
              have hfz37_4 := blk_frozen BK162.out 4
              have hfz37_5 := blk_frozen BK162.out 5
              have hfz37_6 := blk_frozen BK162.out 6
              have hfz37_7 := blk_frozen BK162.out 7
              have hfz37_8 := blk_frozen BK162.out 8
              have hfz37_9 := blk_frozen BK162.out 9
              have hfz37_10 := blk_frozen BK162.out 10
              have hfz37_11 := blk_frozen BK162.out 11
              go_wp2_with (first | ((with_reducible refine gate_callee (f := 48) rfl ?_); refine goesL_ (some 48) rfl rfl Tryd.func48 (by kernel_rfl) rfl #[.int .i64 a0_0] rfl (by (try simp only [List.map_toArray, List.map_cons, List.map_nil]); first | done | rfl | (simp only [List.length_drop, List.length_take]; rfl)) ?_; (with_reducible refine (gimbalref14_hasOp.calls a0_0 false _ A28.out).mono ?_); rintro e w' ⟨rfl, ⟨nd, rfl⟩⟩; refine ⟨_, rfl, ?_⟩))
              go_ret
              exact ⟨by first | rfl | (simp [errW_none, errW_some] <;> rfl) | (simp [*, errW_none, errW_some] <;> rfl), by repeat (first | (with_reducible first | exact HB.out | apply below_alloc | apply pw_below_drewN | apply below_drew1 | refine below_set ?_ GE162.out) | exact HB.out)⟩
theorem ents_l0 (x : Rec) (hm : x.f5.length ≤ maxLen) (hs : ∀ y ∈ x.f5, EntS y) (hw : ∀ y ∈ x.f5, I64 y.f2.f3) : ∀ d i, i + d = x.f5.length → ∀ b, Ev (fun k => gimbalref14_entries.l0 k b (i : Int) x.f0 x.f1 x.f2 x.f3 x.f4.f0 x.f4.f1 x.f4.f2.f0 x.f4.f2.f1 x.f4.f2.f2 x.f4.f2.f3 x.f4.f2.f4 x.f5) (b && ((x.f5.drop i).all entOk && decide (x.f5.length ≤ 24)))
  | 0, i, h, b => by
    refine ⟨1, fun k hk => ?_⟩
    obtain ⟨k, rfl⟩ : ∃ j, k = j + 1 := ⟨k - 1, by omega⟩
    show gimbalref14_entries.l0 (k + 1) b (i : Int) x.f0 x.f1 x.f2 x.f3 x.f4.f0 x.f4.f1 x.f4.f2.f0 x.f4.f2.f1 x.f4.f2.f2 x.f4.f2.f3 x.f4.f2.f4 x.f5 = _
    have e1 : decide ((x.f5.length : Int) ≤ 24) = decide (x.f5.length ≤ 24) := by rw [Bool.eq_iff_iff]; simp; omega
    rw [gimbalref14_entries.l0, if_neg (by omega), List.drop_of_length_le (by omega), e1]
    cases b <;> simp
  | d + 1, i, h, b => by
    have ih := ents_l0 x hm hs hw d (i + 1) (by omega)
    have h1 : i < x.f5.length := by omega
    have e1 : rd_T38 x.f5 (i : Int) = x.f5[i] := rd_E_at x.f5 i h1
    have e3 : (x.f5.drop i).all entOk = (entOk x.f5[i] && (x.f5.drop (i + 1)).all entOk) := by
      rw [List.drop_eq_getElem_cons h1]
      rfl
    rw [e3]
    cases b
    · refine Ev.step (ih false) (fun k hk => ?_)
      rw [gimbalref14_entries.l0, if_pos (by omega), if_neg (by simp), wrap_next x.f5.length i h1 hm]
      rw [hk]
      simp
    · have hE := entE_ref x.f5[i] (hs _ (List.getElem_mem h1)) (hw _ (List.getElem_mem h1))
      refine Ev.step2 (f := fun k => gimbalref14_entries.l0 k true (i : Int) x.f0 x.f1 x.f2 x.f3 x.f4.f0 x.f4.f1 x.f4.f2.f0 x.f4.f2.f1 x.f4.f2.f2 x.f4.f2.f3 x.f4.f2.f4 x.f5) hE (ih (entE x.f5[i] == 0)) (fun k hk1 hk2 => ?_)
      have hk1 : gimbalref04_Check.f k x.f5[i].f0 x.f5[i].f1 x.f5[i].f2.f0 x.f5[i].f2.f1 x.f5[i].f2.f2 x.f5[i].f2.f3 x.f5[i].f2.f4 = some (entE x.f5[i]) := hk1
      have hk2 : gimbalref14_entries.l0 k (entE x.f5[i] == 0) ((i + 1 : Nat) : Int) x.f0 x.f1 x.f2 x.f3 x.f4.f0 x.f4.f1 x.f4.f2.f0 x.f4.f2.f1 x.f4.f2.f2 x.f4.f2.f3 x.f4.f2.f4 x.f5 = some ((entE x.f5[i] == 0) && ((x.f5.drop (i + 1)).all entOk && decide (x.f5.length ≤ 24))) := hk2
      show gimbalref14_entries.l0 (k + 1) true (i : Int) x.f0 x.f1 x.f2 x.f3 x.f4.f0 x.f4.f1 x.f4.f2.f0 x.f4.f2.f1 x.f4.f2.f2 x.f4.f2.f3 x.f4.f2.f4 x.f5 = _
      rw [gimbalref14_entries.l0, if_pos (by omega), if_pos rfl, if_pos (by omega), e1, hk1, Option.bind_some, wrap_next x.f5.length i h1 hm, hk2, entE_eq]
      simp [Bool.and_assoc]
def entsOk (x : Rec) : Bool := (if x.f0 = 2 then decide (1 ≤ x.f3) && entOk x.f4 else sameEnt x.f4 zEnt) && (if x.f0 = 3 then x.f5.all entOk && decide (x.f5.length ≤ 24) else decide (x.f5.length = 0))
theorem ents_j0 (x : Rec) (hm : x.f5.length ≤ maxLen) (hs : ∀ y ∈ x.f5, EntS y) (hw : ∀ y ∈ x.f5, I64 y.f2.f3) (b : Bool) : Ev (fun k => gimbalref14_entries.j0 k b x.f0 x.f1 x.f2 x.f3 x.f4.f0 x.f4.f1 x.f4.f2.f0 x.f4.f2.f1 x.f4.f2.f2 x.f4.f2.f3 x.f4.f2.f4 x.f5) (b && (if x.f0 = 3 then x.f5.all entOk && decide (x.f5.length ≤ 24) else decide (x.f5.length = 0))) := by
  have h0 := ents_l0 x hm hs hw x.f5.length 0 (by omega) b
  rw [List.drop_zero] at h0
  refine Ev.step h0 (fun k hk => ?_)
  rw [gimbalref14_entries.j0]
  by_cases h3 : x.f0 = 3
  · rw [if_pos h3, if_pos h3]
    exact hk
  · rw [if_neg h3, if_neg h3]
    have e : ((x.f5.length : Int) == 0) = decide (x.f5.length = 0) := by rw [Bool.eq_iff_iff]; simp
    rw [e]
    cases b <;> simp
theorem ents_ref (x : Rec) (hm : x.f5.length ≤ maxLen) (h4 : EntS x.f4) (hs : ∀ y ∈ x.f5, EntS y) (hw : RecW x) : Ev (fun k => gimbalref14_entries.f k x.f0 x.f1 x.f2 x.f3 x.f4.f0 x.f4.f1 x.f4.f2.f0 x.f4.f2.f1 x.f4.f2.f2 x.f4.f2.f3 x.f4.f2.f4 x.f5) (entsOk x) := by
  obtain ⟨K, h1⟩ := sameEnt_ref x.f4 zEnt h4.1
  obtain ⟨K2, h2⟩ := entE_ref x.f4 h4 hw.1
  have hj := fun b => ents_j0 x hm hs hw.2 b
  have key : ∀ c, c = (if x.f0 = 2 then decide (1 ≤ x.f3) && entOk x.f4 else sameEnt x.f4 zEnt) → (∀ k, gimbalref04_Same.f k x.f4.f0 x.f4.f1 x.f4.f2.f0 x.f4.f2.f1 x.f4.f2.f2 x.f4.f2.f3 x.f4.f2.f4 0 0 0 (⟨#[]⟩ : ByteArray) 0 0 [] = some (sameEnt x.f4 zEnt) → gimbalref04_Check.f k x.f4.f0 x.f4.f1 x.f4.f2.f0 x.f4.f2.f1 x.f4.f2.f2 x.f4.f2.f3 x.f4.f2.f4 = some (entE x.f4) → gimbalref14_entries.f k x.f0 x.f1 x.f2 x.f3 x.f4.f0 x.f4.f1 x.f4.f2.f0 x.f4.f2.f1 x.f4.f2.f2 x.f4.f2.f3 x.f4.f2.f4 x.f5 = gimbalref14_entries.j0 k c x.f0 x.f1 x.f2 x.f3 x.f4.f0 x.f4.f1 x.f4.f2.f0 x.f4.f2.f1 x.f4.f2.f2 x.f4.f2.f3 x.f4.f2.f4 x.f5) → Ev (fun k => gimbalref14_entries.f k x.f0 x.f1 x.f2 x.f3 x.f4.f0 x.f4.f1 x.f4.f2.f0 x.f4.f2.f1 x.f4.f2.f2 x.f4.f2.f3 x.f4.f2.f4 x.f5) (entsOk x) := by
    intro c hc hf
    obtain ⟨K3, h3⟩ := hj c
    refine ⟨max K (max K2 K3), fun k hk => ?_⟩
    show gimbalref14_entries.f k x.f0 x.f1 x.f2 x.f3 x.f4.f0 x.f4.f1 x.f4.f2.f0 x.f4.f2.f1 x.f4.f2.f2 x.f4.f2.f3 x.f4.f2.f4 x.f5 = _
    rw [hf k (h1 k (by omega)) (h2 k (by omega))]
    unfold entsOk
    rw [← hc]
    exact h3 k (by omega)
  by_cases c2 : x.f0 = 2
  · by_cases c3 : x.f3 ≥ 1
    · refine key (entE x.f4 == 0) (by rw [if_pos c2, decide_eq_true (show 1 ≤ x.f3 by omega), entE_eq]; rfl) (fun k g1 g2 => ?_)
      rw [gimbalref14_entries.f, g1, Option.bind_some, if_pos c2, if_pos c3, g2, Option.bind_some]
    · refine key false (by rw [if_pos c2, decide_eq_false (show ¬ 1 ≤ x.f3 by omega)]; rfl) (fun k g1 g2 => ?_)
      rw [gimbalref14_entries.f, g1, Option.bind_some, if_pos c2, if_neg c3]
  · refine key (sameEnt x.f4 zEnt) (by rw [if_neg c2]) (fun k g1 g2 => ?_)
    rw [gimbalref14_entries.f, g1, Option.bind_some, if_neg c2]
end Go.Proofs.YtmeblifbkhpdnaaDoor.K
namespace Go.Proofs.YtmeblifbkhpdnaaDoor.K
set_option linter.unusedVariables false
set_option linter.unusedSimpArgs false
open Go.RowKit Go.Proofs.YtmeblifbkhpdnaaDoorW.PrintWords Go.Proofs.YtmeblifbkhpdnaaDoorW.PrintLast Go.Proofs.YtmeblifbkhpdnaaDoorW.PrintMore
theorem beqd (a b : Int) : (a == b) = decide (a = b) := by
  rw [Bool.eq_iff_iff]
  simp
def numI (n : Int) : Bool := decide (0 ≤ n) && decide (n ≤ 9007199254740991)
def hasV (k : Int) : Bool := decide (k = 1) || decide (k = 3)
def hasO (k : Int) : Bool := decide (k = 2) || decide (k = 3)
theorem number14_ref (n : Int) : gimbalref14_number.f n = some (numI n) := by
  unfold gimbalref14_number.f numI
  by_cases h : n ≥ 0
  · rw [if_pos h, decide_eq_true (show 0 ≤ n by omega)]; rfl
  · rw [if_neg h, decide_eq_false (show ¬ 0 ≤ n by omega)]; rfl
theorem view14_ref (k : Int) : gimbalref14_hasView.f k = some (hasV k) := by
  unfold gimbalref14_hasView.f hasV
  by_cases h : k = 1
  · rw [if_pos h, decide_eq_true h]; rfl
  · rw [if_neg h, decide_eq_false h]
    simp [beqd]
theorem op14_ref (k : Int) : gimbalref14_hasOp.f k = some (hasO k) := by
  unfold gimbalref14_hasOp.f hasO
  by_cases h : k = 2
  · rw [if_pos h, decide_eq_true h]; rfl
  · rw [if_neg h, decide_eq_false h]
    simp [beqd]
def tailOk (x : Rec) : Bool := (hasV x.f0 || (decide (x.f1 = 0) && decide (x.f2 = 0))) && (hasO x.f0 || decide (x.f3 = 0))
theorem c14_j1 (x : Rec) (b : Bool) : Ev (fun k => gimbalref14_Check.j1 k b x.f0 x.f1 x.f2 x.f3 x.f4.f0 x.f4.f1 x.f4.f2.f0 x.f4.f2.f1 x.f4.f2.f2 x.f4.f2.f3 x.f4.f2.f4 x.f5) (okI (b && (hasO x.f0 || decide (x.f3 = 0)))) := by
  refine ⟨1, fun k hk => ?_⟩
  obtain ⟨k, rfl⟩ : ∃ j, k = j + 1 := ⟨k - 1, by omega⟩
  show gimbalref14_Check.j1 (k + 1) b x.f0 x.f1 x.f2 x.f3 x.f4.f0 x.f4.f1 x.f4.f2.f0 x.f4.f2.f1 x.f4.f2.f2 x.f4.f2.f3 x.f4.f2.f4 x.f5 = _
  rw [gimbalref14_Check.j1, op14_ref, Option.bind_some]
  unfold okI
  cases hasO x.f0 <;> cases b <;> by_cases h : x.f3 = 0 <;> simp [h]
theorem c14_j0 (x : Rec) (b : Bool) : Ev (fun k => gimbalref14_Check.j0 k b x.f0 x.f1 x.f2 x.f3 x.f4.f0 x.f4.f1 x.f4.f2.f0 x.f4.f2.f1 x.f4.f2.f2 x.f4.f2.f3 x.f4.f2.f4 x.f5) (okI (b && tailOk x)) := by
  have key : ∀ c, c = (b && (hasV x.f0 || (decide (x.f1 = 0) && decide (x.f2 = 0)))) → (∀ k, gimbalref14_Check.j0 (k + 1) b x.f0 x.f1 x.f2 x.f3 x.f4.f0 x.f4.f1 x.f4.f2.f0 x.f4.f2.f1 x.f4.f2.f2 x.f4.f2.f3 x.f4.f2.f4 x.f5 = gimbalref14_Check.j1 k c x.f0 x.f1 x.f2 x.f3 x.f4.f0 x.f4.f1 x.f4.f2.f0 x.f4.f2.f1 x.f4.f2.f2 x.f4.f2.f3 x.f4.f2.f4 x.f5) → Ev (fun k => gimbalref14_Check.j0 k b x.f0 x.f1 x.f2 x.f3 x.f4.f0 x.f4.f1 x.f4.f2.f0 x.f4.f2.f1 x.f4.f2.f2 x.f4.f2.f3 x.f4.f2.f4 x.f5) (okI (b && tailOk x)) := by
    intro c hc he
    have h1 := c14_j1 x c
    rw [hc, Bool.and_assoc] at h1
    rw [← hc] at h1
    refine Ev.step h1 (fun k hk => ?_)
    rw [he k]
    exact hk
  cases hv : hasV x.f0
  · cases b
    · refine key false (by simp) (fun k => ?_)
      rw [gimbalref14_Check.j0, view14_ref, hv, Option.bind_some, if_neg (by simp), if_neg (by simp)]
    · by_cases h1 : x.f1 = 0
      · refine key (x.f2 == 0) (by rw [hv, h1]; simp [beqd]) (fun k => ?_)
        rw [gimbalref14_Check.j0, view14_ref, hv, Option.bind_some, if_neg (by simp), if_pos rfl, if_pos h1]
      · refine key false (by rw [hv]; simp [h1]) (fun k => ?_)
        rw [gimbalref14_Check.j0, view14_ref, hv, Option.bind_some, if_neg (by simp), if_pos rfl, if_neg h1]
  · refine key b (by rw [hv]; simp) (fun k => ?_)
    rw [gimbalref14_Check.j0, view14_ref, hv, Option.bind_some, if_pos rfl]
theorem rHas_cases (k : Int) : (¬ (1 ≤ k ∧ k ≤ 3) ∧ rHas k = 0) ∨ (k = 1 ∧ rHas k = 2) ∨ (k = 2 ∧ rHas k = 5) ∨ (k = 3 ∧ rHas k = 11) := by
  by_cases h : 1 ≤ k ∧ k ≤ 3
  · have : k = 1 ∨ k = 2 ∨ k = 3 := by omega
    rcases this with rfl | rfl | rfl
    · exact .inr (.inl ⟨rfl, by decide⟩)
    · exact .inr (.inr (.inl ⟨rfl, by decide⟩))
    · exact .inr (.inr (.inr ⟨rfl, by decide⟩))
  · refine .inl ⟨h, ?_⟩
    unfold rHas
    by_cases h1 : k < 1
    · rw [if_pos h1]
    · rw [if_neg h1, if_pos (by omega)]
def headOk (x : Rec) : Bool := decide (1 ≤ x.f0) && (decide (x.f0 ≤ 3) && (numI x.f1 && (numI x.f2 && (numI x.f3 && entsOk x))))
theorem numOk_eq (own n what : Int) : numOk own n what = if (bits .and .i64 own what != 0) then numI n else decide (n = 0) := by
  unfold numOk numI
  cases bits .and .i64 own what != 0
  · rw [beqd]; simp
  · rw [beqd, Bool.eq_iff_iff]; simp; omega
theorem numI_iff (n : Int) : numI n = true ↔ 0 ≤ n ∧ n ≤ 9007199254740991 := by
  unfold numI
  simp
theorem recOk_ref (x : Rec) : recOk x = (headOk x && tailOk x) := by
  obtain ⟨k, v, l, o, e, es⟩ := x
  unfold recOk okE headOk tailOk entsOk
  have w0 : nWhat 0 = 1 := rfl
  have w1 : nWhat 1 = 2 := rfl
  have w2 : nWhat 2 = 2 := rfl
  have v0 : nVal (⟨k, v, l, o, e, es⟩ : Rec) 0 = o := rfl
  have v1 : nVal (⟨k, v, l, o, e, es⟩ : Rec) 1 = v := rfl
  have v2 : nVal (⟨k, v, l, o, e, es⟩ : Rec) 2 = l := rfl
  simp only [okN, w0, w1, w2, v0, v1, v2, numOk_eq]
  clear v0 v1 v2
  rcases rHas_cases k with ⟨h, hr⟩ | ⟨rfl, hr⟩ | ⟨rfl, hr⟩ | ⟨rfl, hr⟩
  · rw [hr]
    have h0 : (decide (1 ≤ k) && decide (k ≤ 3)) = false := by simp; omega
    have h1 : ((0 : Int) != 0) = false := by decide
    rw [h1]
    simp only [Bool.false_and]
    rw [← Bool.and_assoc (decide (1 ≤ k)), h0]
    rfl
  · have b1 : (bits .and .i64 2 1 != 0) = false := by decide
    have b2 : (bits .and .i64 2 2 != 0) = true := by decide
    have b4 : (bits .and .i64 2 4 != 0) = false := by decide
    have b8 : (bits .and .i64 2 8 == 0) = true := by decide
    have hv : hasV 1 = true := by decide
    have ho : hasO 1 = false := by decide
    rw [hr]
    simp only [b1, b2, b4, b8, hv, ho]
    cases hs : sameEnt e zEnt
    · simp
    · rw [Bool.eq_iff_iff]
      simp [numI_iff]
      constructor
      · rintro ⟨⟨⟨h1, h2⟩, h3⟩, h4, h5, h6⟩
        exact ⟨⟨h2, h3, ⟨by omega, by omega⟩, h6⟩, h1⟩
      · rintro ⟨⟨h1, h2, _, h5⟩, h6⟩
        subst h5
        exact ⟨⟨⟨h6, h1⟩, h2⟩, by simp⟩
  · have b1 : (bits .and .i64 5 1 != 0) = true := by decide
    have b2 : (bits .and .i64 5 2 != 0) = false := by decide
    have b4 : (bits .and .i64 5 4 != 0) = true := by decide
    have b8 : (bits .and .i64 5 8 == 0) = true := by decide
    have hv : hasV 2 = false := by decide
    have ho : hasO 2 = true := by decide
    rw [hr]
    simp only [b1, b2, b4, b8, hv, ho]
    cases hs : entOk e
    · simp
    · rw [Bool.eq_iff_iff]
      simp [numI_iff]
      constructor
      · rintro ⟨⟨⟨⟨h1, h2⟩, h3⟩, h7⟩, h4, h5, h6⟩
        exact ⟨⟨⟨by omega, by omega⟩, ⟨by omega, by omega⟩, h1, by omega, h6⟩, h2, h3⟩
      · rintro ⟨⟨_, _, h1, h7, h5⟩, h2, h3⟩
        subst h5
        exact ⟨⟨⟨⟨h1, h2⟩, h3⟩, by omega⟩, by simp⟩
  · have b1 : (bits .and .i64 11 1 != 0) = true := by decide
    have b2 : (bits .and .i64 11 2 != 0) = true := by decide
    have b4 : (bits .and .i64 11 4 != 0) = false := by decide
    have b8 : (bits .and .i64 11 8 == 0) = false := by decide
    have hv : hasV 3 = true := by decide
    have ho : hasO 3 = true := by decide
    rw [hr]
    simp only [b1, b2, b4, b8, hv, ho]
    cases hs : sameEnt e zEnt
    · simp
    · rw [Bool.eq_iff_iff]
      simp [numI_iff]
      constructor
      · rintro ⟨⟨⟨h1, h2⟩, h3⟩, h4, h5⟩
        exact ⟨h2, h3, h1, h4, h5⟩
      · rintro ⟨h1, h2, h3, h4, h5⟩
        exact ⟨⟨⟨h3, h1⟩, h2⟩, h4, h5⟩
theorem recE_ref (x : Rec) (hm : x.f5.length ≤ maxLen) (h4 : EntS x.f4) (hs : ∀ y ∈ x.f5, EntS y) (hw : RecW x) : Ev (fun k => gimbalref14_Check.f k x.f0 x.f1 x.f2 x.f3 x.f4.f0 x.f4.f1 x.f4.f2.f0 x.f4.f2.f1 x.f4.f2.f2 x.f4.f2.f3 x.f4.f2.f4 x.f5) (recE x) := by
  obtain ⟨K, h1⟩ := ents_ref x hm h4 hs hw
  have key : ∀ c, c = headOk x → (∀ k, gimbalref14_entries.f k x.f0 x.f1 x.f2 x.f3 x.f4.f0 x.f4.f1 x.f4.f2.f0 x.f4.f2.f1 x.f4.f2.f2 x.f4.f2.f3 x.f4.f2.f4 x.f5 = some (entsOk x) → gimbalref14_Check.f k x.f0 x.f1 x.f2 x.f3 x.f4.f0 x.f4.f1 x.f4.f2.f0 x.f4.f2.f1 x.f4.f2.f2 x.f4.f2.f3 x.f4.f2.f4 x.f5 = gimbalref14_Check.j0 k c x.f0 x.f1 x.f2 x.f3 x.f4.f0 x.f4.f1 x.f4.f2.f0 x.f4.f2.f1 x.f4.f2.f2 x.f4.f2.f3 x.f4.f2.f4 x.f5) → Ev (fun k => gimbalref14_Check.f k x.f0 x.f1 x.f2 x.f3 x.f4.f0 x.f4.f1 x.f4.f2.f0 x.f4.f2.f1 x.f4.f2.f2 x.f4.f2.f3 x.f4.f2.f4 x.f5) (recE x) := by
    intro c hc hf
    obtain ⟨K2, h2⟩ := c14_j0 x c
    refine ⟨max K K2, fun k hk => ?_⟩
    show gimbalref14_Check.f k x.f0 x.f1 x.f2 x.f3 x.f4.f0 x.f4.f1 x.f4.f2.f0 x.f4.f2.f1 x.f4.f2.f2 x.f4.f2.f3 x.f4.f2.f4 x.f5 = _
    rw [hf k (h1 k (by omega))]
    have e : recE x = okI (c && tailOk x) := by unfold recE okI; rw [recOk_ref, hc]
    rw [e]
    exact h2 k (by omega)
  by_cases a1 : x.f0 ≥ 1
  · by_cases a2 : x.f0 ≤ 3
    · have d1 : decide (1 ≤ x.f0) = true := decide_eq_true (by omega)
      have d2 : decide (x.f0 ≤ 3) = true := decide_eq_true a2
      cases n1 : numI x.f1
      · refine key false (by unfold headOk; rw [d1, d2, n1]; rfl) (fun k hk => ?_)
        rw [gimbalref14_Check.f, if_pos a1, if_pos a2, number14_ref, n1, Option.bind_some, if_neg (by simp)]
      · cases n2 : numI x.f2
        · refine key false (by unfold headOk; rw [d1, d2, n1, n2]; rfl) (fun k hk => ?_)
          rw [gimbalref14_Check.f, if_pos a1, if_pos a2, number14_ref, n1, Option.bind_some, if_pos rfl, number14_ref, n2, Option.bind_some, if_neg (by simp)]
        · cases n3 : numI x.f3
          · refine key false (by unfold headOk; rw [d1, d2, n1, n2, n3]; rfl) (fun k hk => ?_)
            rw [gimbalref14_Check.f, if_pos a1, if_pos a2, number14_ref, n1, Option.bind_some, if_pos rfl, number14_ref, n2, Option.bind_some, if_pos rfl, number14_ref, n3, Option.bind_some, if_neg (by simp)]
          · refine key (entsOk x) (by unfold headOk; rw [d1, d2, n1, n2, n3]; rfl) (fun k hk => ?_)
            rw [gimbalref14_Check.f, if_pos a1, if_pos a2, number14_ref, n1, Option.bind_some, if_pos rfl, number14_ref, n2, Option.bind_some, if_pos rfl, number14_ref, n3, Option.bind_some, if_pos rfl, hk, Option.bind_some]
    · refine key false (by unfold headOk; rw [decide_eq_false a2]; simp) (fun k hk => ?_)
      rw [gimbalref14_Check.f, if_pos a1, if_neg a2]
  · refine key false (by unfold headOk; rw [decide_eq_false (show ¬ 1 ≤ x.f0 by omega)]; rfl) (fun k hk => ?_)
    rw [gimbalref14_Check.f, if_neg a1]
end Go.Proofs.YtmeblifbkhpdnaaDoor.K
