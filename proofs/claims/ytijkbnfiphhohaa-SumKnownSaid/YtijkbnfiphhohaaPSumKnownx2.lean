-- Laid by a session's own program (wip/myprint.py) with the kit's print.py and contracts by hand.
import Derived.Test.YtijkbnfiphhohaaPSumKnownx0
import Derived.Test.YtijkbnfiphhohaaPSumKnownx1
namespace Go.Proofs.Ytijkbnfiphhohaa.PSumKnown
open Go.RowKit Go.Proofs.YtijkbnfiphhohaaW.PrintWords Go.Proofs.YtijkbnfiphhohaaW.PrintLast Go.Proofs.YtijkbnfiphhohaaW.PrintMore
attribute [local go_sem] max2_int min2_int max_two min_two max_three min_three max_four min_four   -- for this text's walks alone
set_option linter.unusedVariables false
set_option linter.unusedSimpArgs false

/-! ### sum_Open: function 12 -/
def sum_Open.f (k : Nat) (l0 : List Int) : Option (List Int × Int) := if (l0.length : Int) > 65536 then (some (([] : List Int), 5)) else (if (wrap64 ((l0.length : Int) - 4)) < 0 then (some (([] : List Int), 3)) else (if 0 ≤ (wrap64 ((l0.length : Int) - 4)) then (if (wrap64 ((l0.length : Int) - 4)) ≤ (l0.length : Int) then ((sum_sealed.f k (l0.drop ((wrap64 ((l0.length : Int) - 4)) : Int).toNat)).bind fun t124 => ((sum_Crc.f (l0.take ((wrap64 ((l0.length : Int) - 4)) : Int).toNat)).bind fun t126 => (if t124 = t126 then ((slices_Clone_byte_byte.f (l0.take ((wrap64 ((l0.length : Int) - 4)) : Int).toNat)).bind fun t128 => (some (t128, 0))) else (some (([] : List Int), 20))))) else (none)) else (none)))
theorem sum_Open.mono : ∀ a0 k, LeO (sum_Open.f k a0) (sum_Open.f (k + 1) a0) := by
  intro a0 k
  unfold sum_Open.f
  repeat' first
      | (with_reducible exact sum_sealed.mono _ _)
      | (with_reducible exact LeO.refl _)
      | (with_reducible exact LeO.none _)
      | (with_reducible refine LeO.ite ?_ ?_)
      | (with_reducible refine LeO.bind ?_ (fun _ => ?_))
      | exact sum_sealed.mono _ _
      | exact LeO.none _
      | refine LeO.ite ?_ ?_
      | refine LeO.bind ?_ (fun _ => ?_)
def sum_Open.T6 : Bool × List (List Nat × List Nat) := (true, [([], []), ([], []), ([0, 1], [0, 1]), ([2], [2]), ([], []), ([], []), ([4, 5], [4, 5]), ([6, 3], [6]), ([3, 7], [3, 7]), ([8, 7], [8])])
def sum_Open.B6 : List Nat := [0, 0, 3, 7, 0, 0, 48, 127, 255, 511]
theorem sum_Open.tab6 : rtab .any (opsOf Try.f12 6) = sum_Open.T6 := by kernel_rfl
theorem sum_Open.bits6 : waitsOk sum_Open.T6.2 sum_Open.B6 = true := by kernel_rfl
set_option maxHeartbeats 8000000 in
set_option maxRecDepth 100000 in
theorem sum_Open.calls (k : Nat) (A0 : Option Addr) (c0 : Nat) (l0 : List Int) (r1 : List Int) (r2 : Int) (w : World) (hr0 : Kd.C (Kd.int .u8) w A0 l0.length l0) (hc0 : l0.length ≤ c0) (h : sum_Open.f k l0 = some (r1, r2)) :
    Calls Try.prog 12 #[.slice A0 l0.length c0] w fun e w' => ∃ v0_ : Value, e = .returned (.tuple #[v0_, .int .i64 r2]) ∧ Kd.R (Kd.int .u8) 5 w' w.heap.size (fun _ => True) v0_ r1 ∧ Below w.heap.size w w' := by
  have HR0 := Aside0.mk hr0
  have HC0 := Aside0.mk hc0
  clear hr0 hc0
  have HB := Aside0.mk (Below.refl w.heap.size w)
  have H : (if (l0.length : Int) > 65536 then (some (([] : List Int), 5)) else (if (wrap64 ((l0.length : Int) - 4)) < 0 then (some (([] : List Int), 3)) else (if 0 ≤ (wrap64 ((l0.length : Int) - 4)) then (if (wrap64 ((l0.length : Int) - 4)) ≤ (l0.length : Int) then ((sum_sealed.f k (l0.drop ((wrap64 ((l0.length : Int) - 4)) : Int).toNat)).bind fun t124 => ((sum_Crc.f (l0.take ((wrap64 ((l0.length : Int) - 4)) : Int).toNat)).bind fun t126 => (if t124 = t126 then ((slices_Clone_byte_byte.f (l0.take ((wrap64 ((l0.length : Int) - 4)) : Int).toNat)).bind fun t128 => (some (t128, 0))) else (some (([] : List Int), 20))))) else (none)) else (none)))) = some (r1, r2) := h
  clear h
  by_cases c2 : (l0.length : Int) > 65536
  · rw [if_pos c2] at H
    have c2b0 : decide (65536 < (l0.length : Int)) = true := decide_eq_true c2
    have c2b1 : decide (65536 < l0.length) = true := decide_eq_true (by omega)
    clear c2
    simp only [Option.some.injEq, Prod.mk.injEq] at H
    obtain ⟨rfl, rfl⟩ := H
    go_enter Try.func12, Try.ntmps12
    go_wp2
    go_ret2
    exact ⟨_, by first | rfl | (simp [errW_none, errW_some] <;> rfl) | (simp [*, errW_none, errW_some] <;> rfl), by first | exact Kd.R_nil _ _ _ _ _ | exact Kd.N_nil _ _ _ _ _ | exact Kd.V_nil _ _ _ _ _ | exact Kd.Q_nil _ _ _ _ _ | exact Kd.S_nil _ _ _ _ _, by repeat (first | (with_reducible first | exact HB.out | apply below_alloc | apply pw_below_drewN | apply below_drew1) | exact HB.out)⟩
  · rw [if_neg c2] at H
    have c2b0 : decide (65536 < (l0.length : Int)) = false := decide_eq_false c2
    have c2b1 : decide (65536 < l0.length) = false := decide_eq_false (by omega)
    clear c2
    by_cases c3 : (wrap64 ((l0.length : Int) - 4)) < 0
    · rw [if_pos c3] at H
      have c3b0 : decide ((wrap64 ((l0.length : Int) - 4)) < 0) = true := decide_eq_true c3
      clear c3
      simp only [Option.some.injEq, Prod.mk.injEq] at H
      obtain ⟨rfl, rfl⟩ := H
      go_enter Try.func12, Try.ntmps12
      go_wp2
      go_ret2
      exact ⟨_, by first | rfl | (simp [errW_none, errW_some] <;> rfl) | (simp [*, errW_none, errW_some] <;> rfl), by first | exact Kd.R_nil _ _ _ _ _ | exact Kd.N_nil _ _ _ _ _ | exact Kd.V_nil _ _ _ _ _ | exact Kd.Q_nil _ _ _ _ _ | exact Kd.S_nil _ _ _ _ _, by repeat (first | (with_reducible first | exact HB.out | apply below_alloc | apply pw_below_drewN | apply below_drew1) | exact HB.out)⟩
    · rw [if_neg c3] at H
      have c3b0 : decide ((wrap64 ((l0.length : Int) - 4)) < 0) = false := decide_eq_false c3
      clear c3
      obtain ⟨ji4, hji4⟩ : ∃ j_ : Int, (wrap64 ((l0.length : Int) - 4)) = j_ := ⟨_, rfl⟩
      replace H : (if 0 ≤ (ji4) then (if (ji4) ≤ (l0.length : Int) then ((sum_sealed.f k (l0.drop ((ji4) : Int).toNat)).bind fun t124 => ((sum_Crc.f (l0.take ((ji4) : Int).toNat)).bind fun t126 => (if t124 = t126 then ((slices_Clone_byte_byte.f (l0.take ((ji4) : Int).toNat)).bind fun t128 => (some (t128, 0))) else (some (([] : List Int), 20))))) else (none)) else (none)) = some (r1, r2) := by first | (rw [hji4] at H; exact H) | (simp only [hji4] at H ⊢; exact H)
      (try rw [hji4] at c3b0)
      have hji4w : (IntKind.i64.wrap ((l0.length : Int) - 4)) = ji4 := (i64_w _).trans hji4
      by_cases c5 : 0 ≤ (ji4)
      · rw [if_pos c5] at H
        have c5b0 := eq_true c5
        have c5b1 : decide (0 ≤ (ji4)) = true := decide_eq_true c5
        clear c5
        by_cases c6 : (ji4) ≤ (l0.length : Int)
        · rw [if_pos c6] at H
          have c6b0 := eq_true c6
          have c6b1 : decide ((ji4) ≤ (l0.length : Int)) = true := decide_eq_true c6
          clear c6
          replace H := Option.bind_eq_some_iff.mp H
          obtain ⟨t124, A70, H⟩ := H
          replace H : ((sum_Crc.f (l0.take ((ji4) : Int).toNat)).bind fun t126 => (if t124 = t126 then ((slices_Clone_byte_byte.f (l0.take ((ji4) : Int).toNat)).bind fun t128 => (some (t128, 0))) else (some (([] : List Int), 20)))) = some (r1, r2) := H
          have A7 := Aside0.mk A70
          clear A70
          have c8b0 := eq_true (of_decide_eq_true (by first | (with_reducible assumption) | assumption) : 0 ≤ (ji4))
          have c9b0 := eq_true (of_decide_eq_true (by first | (with_reducible assumption) | assumption) : (ji4) ≤ (l0.length : Int))
          replace H := Option.bind_eq_some_iff.mp H
          obtain ⟨t126, A100, H⟩ := H
          replace H : (if t124 = t126 then ((slices_Clone_byte_byte.f (l0.take ((ji4) : Int).toNat)).bind fun t128 => (some (t128, 0))) else (some (([] : List Int), 20))) = some (r1, r2) := H
          have A10 := Aside0.mk A100
          clear A100
          by_cases c11 : t124 = t126
          · rw [if_pos c11] at H
            have c11b0 : (t124 == t126) = true := beq_iff_eq.mpr c11
            have c11b1 : (t124 != t126) = false := bne_eq_false_iff_eq.mpr c11
            clear c11
            have c12b0 := eq_true (of_decide_eq_true (by first | (with_reducible assumption) | assumption) : 0 ≤ (ji4))
            have c13b0 := eq_true (of_decide_eq_true (by first | (with_reducible assumption) | assumption) : (ji4) ≤ (l0.length : Int))
            replace H := Option.bind_eq_some_iff.mp H
            obtain ⟨t128, A140, H⟩ := H
            replace H : (some (t128, 0)) = some (r1, r2) := H
            have A14 := Aside0.mk A140
            clear A140
            simp only [Option.some.injEq, Prod.mk.injEq] at H
            obtain ⟨rfl, rfl⟩ := H
            go_enter Try.func12, Try.ntmps12
            try go_wp2
            have n0_ := Aside0.mk (below_drew1 HB.out)
            clear HB
            have HB := n0_
            clear n0_
            obtain ⟨i016, hi016, _, hsz16, _⟩ := info_parts info5
            obtain ⟨A16, hcut16, hA16, hC16⟩ := print_drop_of (P := Try.prog) (Value.int .u8) 0 22 5 .i64 Try.underlying22 hi016 hsz16 A0 c0 l0 (ji4) (of_decide_eq_true (by first | (with_reducible assumption) | assumption)) (of_decide_eq_true (by first | (with_reducible assumption) | assumption)) HC0.out
            have HR123 := Aside0.mk (Kd.C_of_reads (h1 := fun _ => rfl) (hA16 _ (Kd.reads_of_C HR0.out)))
            have HC123 := Aside0.mk hC16
            clear hA16 hC16 hi016 hsz16
            obtain ⟨i017, hi017, _, hsz17, _⟩ := info_parts info5
            obtain ⟨hcut17, hA17, hC17⟩ := print_take_of (P := Try.prog) (Value.int .u8) 0 22 5 .i64 Try.underlying22 hi017 hsz17 A0 c0 l0 (ji4) (of_decide_eq_true (by first | (with_reducible assumption) | assumption)) (of_decide_eq_true (by first | (with_reducible assumption) | assumption)) HC0.out
            have HR125 := Aside0.mk (Kd.C_of_reads (h1 := fun _ => rfl) (hA17 _ (Kd.reads_of_C HR0.out)))
            have HC125 := Aside0.mk hC17
            clear hA17 hC17 hi017 hsz17
            refine start_ (n := 10) (S := fun w' => True) (ds := []) #[false, false, false, false, false, false, false, false, false, false] (by kernel_rfl) rfl rfl trivial (fun hHeld => ?_); refine with_tabW sum_Open.tab6 sum_Open.bits6 (fun HT_ HW_ => ?_)
            generalize w.drew = w15 at HB HR123 HR125 hHeld ⊢
            refine pure_ (i := 0) (N := some 16) (v := ?_) (a' := ?_) #[true, false, false, false, false, false, false, false, false, false] rfl rfl (any_of HT_.out (by kernel_rfl)) (fun _ _ _ h => h) (Or.inl ⟨by rfl, ?_⟩) ?_ ?_
            rotate_left
            · intro w'
              go_simp
              with_reducible rfl
            rotate_left
            · simp only [Act.put, List.setIfInBounds_toArray, List.set_cons_zero, List.set_cons_succ, i64_w, i32_w]
              rfl
            refine pure_ (i := 1) (N := some 17) (v := ?_) (a' := ?_) #[true, true, false, false, false, false, false, false, false, false] rfl rfl (any_of HT_.out (by kernel_rfl)) (fun _ _ _ h => h) (Or.inl ⟨by rfl, ?_⟩) ?_ ?_
            rotate_left
            · intro w'
              go_simp
              with_reducible rfl
            rotate_left
            · simp only [Act.put, List.setIfInBounds_toArray, List.set_cons_zero, List.set_cons_succ, i64_w, i32_w]
              rfl
            refine pure_ (i := 2) (N := some 18) (v := ?_) (a' := ?_) #[true, true, true, false, false, false, false, false, false, false] rfl rfl (any_of HT_.out (by kernel_rfl)) (fun _ _ _ h => h) (Or.inl ⟨by rfl, ?_⟩) ?_ ?_
            rotate_left
            · intro w'
              go_simp
              with_reducible rfl
            rotate_left
            · simp only [Act.put, List.setIfInBounds_toArray, List.set_cons_zero, List.set_cons_succ, i64_w, i32_w]
              rfl
            refine pure_ (i := 4) (N := some 20) (v := ?_) (a' := ?_) #[true, true, true, false, true, false, false, false, false, false] rfl rfl (any_of HT_.out (by kernel_rfl)) (fun _ _ _ h => h) (Or.inl ⟨by rfl, ?_⟩) ?_ ?_
            rotate_left
            · intro w'
              go_simp
              with_reducible rfl
            rotate_left
            · simp only [Act.put, List.setIfInBounds_toArray, List.set_cons_zero, List.set_cons_succ, i64_w, i32_w]
              rfl
            refine pure_ (i := 5) (N := some 21) (v := ?_) (a' := ?_) #[true, true, true, false, true, true, false, false, false, false] rfl rfl (any_of HT_.out (by kernel_rfl)) (fun _ _ _ h => h) (Or.inl ⟨by rfl, ?_⟩) ?_ ?_
            rotate_left
            · intro w'
              go_simp
              with_reducible rfl
            rotate_left
            · simp only [Act.put, List.setIfInBounds_toArray, List.set_cons_zero, List.set_cons_succ, i64_w, i32_w]
              rfl
            refine pure_ (i := 6) (N := some 22) (v := ?_) (a' := ?_) #[true, true, true, false, true, true, true, false, false, false] rfl rfl (any_of HT_.out (by kernel_rfl)) (fun _ _ _ h => h) (Or.inl ⟨by rfl, ?_⟩) ?_ ?_
            rotate_left
            · intro w'
              go_simp
              with_reducible rfl
            rotate_left
            · simp only [Act.put, List.setIfInBounds_toArray, List.set_cons_zero, List.set_cons_succ, i64_w, i32_w]
              rfl
            refine one_ (i := 3) (N := some 19) #[true, true, true, true, true, true, true, false, false, false] rfl rfl (one_of HT_.out (by kernel_rfl)) (by decide) (fun K hK => ?_)
            refine goes_ Try.func22 (by kernel_rfl) rfl #[.slice A16 (l0.drop ((ji4) : Int).toNat).length (c0 - (ji4).toNat)] (by rfl) rfl rfl (by (try simp only [List.map_toArray, List.map_cons, List.map_nil]); first | done | (rw [show (l0.drop ((ji4) : Int).toNat).length = (l0.length - (ji4).toNat) from List.length_drop] <;> rfl) | (simp only [hji4]; rfl) | rfl | (simp only [List.length_drop, List.length_take]; rfl)) ?_
            with_reducible refine (sum_sealed.calls k _ _ (l0.drop ((ji4) : Int).toNat) t124 _ ?side1 ?side2 A7.out).mono ?_
            (case side1 => repeat (first | exact (Kd.C_below HR123.out HB.out) | (with_reducible refine Kd.C_alloc ?_ _) | (with_reducible refine Kd.C_drewN ?_ _) | (with_reducible refine Kd.C_drew ?_)))
            (case side2 => exact HC123.out)
            rintro e w' ⟨rfl, ⟨nd, rfl⟩⟩
            refine ⟨_, rfl, ?_⟩
            refine hK.out _ _ trivial (fun hHeld => ?_)
            clear hK K
            refine norm_ (a' := ?_) ?_ ?_
            rotate_left
            · show Act.put _ (some 19) _ = _
              simp only [Act.put, List.setIfInBounds_toArray, List.set_cons_zero, List.set_cons_succ, i64_w, i32_w]
              rfl
            refine one_ (i := 7) (N := some 23) #[true, true, true, true, true, true, true, true, false, false] rfl rfl (one_of HT_.out (by kernel_rfl)) (by decide) (fun K hK => ?_)
            refine goes_ Try.func14 (by kernel_rfl) rfl #[.slice A0 (l0.take ((ji4) : Int).toNat).length c0] (by rfl) rfl rfl (by (try simp only [List.map_toArray, List.map_cons, List.map_nil]); first | done | (rw [show (l0.take ((ji4) : Int).toNat).length = (ji4).toNat from (by rw [List.length_take]; have h_ : ((ji4) : Int) ≤ (l0.length : Int) := of_decide_eq_true (by first | (with_reducible assumption) | assumption); omega)] <;> rfl) | (simp only [hji4]; rfl) | rfl | (simp only [List.length_drop, List.length_take]; rfl)) ?_
            with_reducible refine (sum_Crc.calls _ _ (l0.take ((ji4) : Int).toNat) t126 _ ?side1 ?side2 A10.out).mono ?_
            (case side1 => repeat (first | exact (Kd.C_below HR125.out (by repeat (first | (with_reducible first | exact HB.out | apply below_alloc | apply pw_below_drewN | apply below_drew1) | exact HB.out))) | (with_reducible refine Kd.C_alloc ?_ _) | (with_reducible refine Kd.C_drewN ?_ _) | (with_reducible refine Kd.C_drew ?_)))
            (case side2 => exact HC125.out)
            rintro e w18 ⟨rfl, hb⟩
            refine ⟨_, rfl, ?_⟩
            have n0_ := Aside0.mk (below_step (by repeat (first | (with_reducible first | exact HB.out | apply below_alloc | apply pw_below_drewN | apply below_drew1) | exact HB.out)) hb)
            clear HB
            have HB := n0_
            clear n0_
            (try clear hb)
            (try clear hb2)
            (try clear hk)
            (try clear hi)
            refine hK.out _ _ trivial (fun hHeld => ?_)
            clear hK K
            refine norm_ (a' := ?_) ?_ ?_
            rotate_left
            · show Act.put _ (some 23) _ = _
              simp only [Act.put, List.setIfInBounds_toArray, List.set_cons_zero, List.set_cons_succ, i64_w, i32_w]
              rfl
            refine pure_ (i := 8) (N := some 24) (v := ?_) (a' := ?_) #[true, true, true, true, true, true, true, true, true, false] rfl rfl (any_of HT_.out (by kernel_rfl)) (fun _ _ _ h => h) (Or.inl ⟨by rfl, ?_⟩) ?_ ?_
            rotate_left
            · intro w'
              go_simp
              with_reducible rfl
            rotate_left
            · simp only [Act.put, List.setIfInBounds_toArray, List.set_cons_zero, List.set_cons_succ, i64_w, i32_w]
              rfl
            refine pure_ (i := 9) (N := some 15) (v := ?_) (a' := ?_) #[true, true, true, true, true, true, true, true, true, true] rfl rfl (any_of HT_.out (by kernel_rfl)) (fun _ _ _ h => h) (Or.inl ⟨by rfl, ?_⟩) ?_ ?_
            rotate_left
            · intro w'
              go_simp
              with_reducible rfl
            rotate_left
            · simp only [Act.put, List.setIfInBounds_toArray, List.set_cons_zero, List.set_cons_succ, i64_w, i32_w]
              rfl
            refine done_ (done_of HT_.out (by kernel_rfl)) ?_
            obtain ⟨i019, hi019, _, hsz19, _⟩ := info_parts info5
            obtain ⟨hcut19, hA19, hC19⟩ := print_take_of (P := Try.prog) (Value.int .u8) 0 22 5 .i64 Try.underlying22 hi019 hsz19 A0 c0 l0 (ji4) (of_decide_eq_true (by first | (with_reducible assumption) | assumption)) (of_decide_eq_true (by first | (with_reducible assumption) | assumption)) HC0.out
            have HR127 := Aside0.mk (Kd.C_of_reads (h1 := fun _ => rfl) (hA19 _ (Kd.reads_of_C HR0.out)))
            have HC127 := Aside0.mk hC19
            clear hA19 hC19 hi019 hsz19
            try go_wp2_with (first | ((with_reducible refine gate_callee (f := 21) rfl ?_); refine goesL_ (some 28) rfl rfl Try.func21 (by kernel_rfl) rfl #[.slice A0 (l0.take ((ji4) : Int).toNat).length c0] rfl (by (try simp only [List.map_toArray, List.map_cons, List.map_nil]); first | done | (rw [show (l0.take ((ji4) : Int).toNat).length = (ji4).toNat from (by rw [List.length_take]; have h_ : ((ji4) : Int) ≤ (l0.length : Int) := of_decide_eq_true (by first | (with_reducible assumption) | assumption); omega)] <;> rfl) | (simp only [hji4]; rfl) | rfl | (simp only [List.length_drop, List.length_take]; rfl)) ?_; (with_reducible refine (slices_Clone_byte_byte.calls _ _ (l0.take ((ji4) : Int).toNat) t128 _ ?side1 ?side2 A14.out).mono ?_); (case side1 => repeat (first | exact (Kd.C_below HR127.out HB.out) | (with_reducible refine Kd.C_alloc ?_ _) | (with_reducible refine Kd.C_drewN ?_ _) | (with_reducible refine Kd.C_drew ?_))); (case side2 => exact HC127.out); rintro e w20 ⟨v129, rfl, ho0, hb⟩; refine ⟨_, rfl, ?_⟩; have n0_ := Aside0.mk (Kd.R_lower ho0 (below_size (by repeat (first | (with_reducible first | exact HB.out | apply below_alloc | apply pw_below_drewN | apply below_drew1) | exact HB.out)))); have n1_ := Aside0.mk (below_step (by repeat (first | (with_reducible first | exact HB.out | apply below_alloc | apply pw_below_drewN | apply below_drew1) | exact HB.out)) hb); clear HB; have HO130 := n0_; have HB := n1_; clear n0_ n1_; (try clear hb); (try clear hb2); (try clear hk); (try clear hi); (try clear ho0)))
            go_ret2
            exact ⟨_, by first | rfl | (simp [errW_none, errW_some] <;> rfl) | (simp only [← hji4]; first | rfl | (simp [errW_none, errW_some] <;> rfl)) | (simp [*, errW_none, errW_some] <;> rfl), by (with_reducible repeat (first | apply Kd.R_alloc | apply Kd.R_drewN | apply Kd.R_drew)); exact HO130.out, by repeat (first | (with_reducible first | exact HB.out | apply below_alloc | apply pw_below_drewN | apply below_drew1) | exact HB.out)⟩
          · rw [if_neg c11] at H
            have c11b0 : (t124 == t126) = false := beq_eq_false_iff_ne.mpr c11
            have c11b1 : (t124 != t126) = true := bne_iff_ne.mpr c11
            simp only [Option.some.injEq, Prod.mk.injEq] at H
            obtain ⟨rfl, rfl⟩ := H
            go_enter Try.func12, Try.ntmps12
            try go_wp2
            have n0_ := Aside0.mk (below_drew1 HB.out)
            clear HB
            have HB := n0_
            clear n0_
            obtain ⟨i022, hi022, _, hsz22, _⟩ := info_parts info5
            obtain ⟨A22, hcut22, hA22, hC22⟩ := print_drop_of (P := Try.prog) (Value.int .u8) 0 22 5 .i64 Try.underlying22 hi022 hsz22 A0 c0 l0 (ji4) (of_decide_eq_true (by first | (with_reducible assumption) | assumption)) (of_decide_eq_true (by first | (with_reducible assumption) | assumption)) HC0.out
            have HR123 := Aside0.mk (Kd.C_of_reads (h1 := fun _ => rfl) (hA22 _ (Kd.reads_of_C HR0.out)))
            have HC123 := Aside0.mk hC22
            clear hA22 hC22 hi022 hsz22
            obtain ⟨i023, hi023, _, hsz23, _⟩ := info_parts info5
            obtain ⟨hcut23, hA23, hC23⟩ := print_take_of (P := Try.prog) (Value.int .u8) 0 22 5 .i64 Try.underlying22 hi023 hsz23 A0 c0 l0 (ji4) (of_decide_eq_true (by first | (with_reducible assumption) | assumption)) (of_decide_eq_true (by first | (with_reducible assumption) | assumption)) HC0.out
            have HR125 := Aside0.mk (Kd.C_of_reads (h1 := fun _ => rfl) (hA23 _ (Kd.reads_of_C HR0.out)))
            have HC125 := Aside0.mk hC23
            clear hA23 hC23 hi023 hsz23
            refine start_ (n := 10) (S := fun w' => True) (ds := []) #[false, false, false, false, false, false, false, false, false, false] (by kernel_rfl) rfl rfl trivial (fun hHeld => ?_); refine with_tabW sum_Open.tab6 sum_Open.bits6 (fun HT_ HW_ => ?_)
            generalize w.drew = w21 at HB HR123 HR125 hHeld ⊢
            refine pure_ (i := 0) (N := some 16) (v := ?_) (a' := ?_) #[true, false, false, false, false, false, false, false, false, false] rfl rfl (any_of HT_.out (by kernel_rfl)) (fun _ _ _ h => h) (Or.inl ⟨by rfl, ?_⟩) ?_ ?_
            rotate_left
            · intro w'
              go_simp
              with_reducible rfl
            rotate_left
            · simp only [Act.put, List.setIfInBounds_toArray, List.set_cons_zero, List.set_cons_succ, i64_w, i32_w]
              rfl
            refine pure_ (i := 1) (N := some 17) (v := ?_) (a' := ?_) #[true, true, false, false, false, false, false, false, false, false] rfl rfl (any_of HT_.out (by kernel_rfl)) (fun _ _ _ h => h) (Or.inl ⟨by rfl, ?_⟩) ?_ ?_
            rotate_left
            · intro w'
              go_simp
              with_reducible rfl
            rotate_left
            · simp only [Act.put, List.setIfInBounds_toArray, List.set_cons_zero, List.set_cons_succ, i64_w, i32_w]
              rfl
            refine pure_ (i := 2) (N := some 18) (v := ?_) (a' := ?_) #[true, true, true, false, false, false, false, false, false, false] rfl rfl (any_of HT_.out (by kernel_rfl)) (fun _ _ _ h => h) (Or.inl ⟨by rfl, ?_⟩) ?_ ?_
            rotate_left
            · intro w'
              go_simp
              with_reducible rfl
            rotate_left
            · simp only [Act.put, List.setIfInBounds_toArray, List.set_cons_zero, List.set_cons_succ, i64_w, i32_w]
              rfl
            refine pure_ (i := 4) (N := some 20) (v := ?_) (a' := ?_) #[true, true, true, false, true, false, false, false, false, false] rfl rfl (any_of HT_.out (by kernel_rfl)) (fun _ _ _ h => h) (Or.inl ⟨by rfl, ?_⟩) ?_ ?_
            rotate_left
            · intro w'
              go_simp
              with_reducible rfl
            rotate_left
            · simp only [Act.put, List.setIfInBounds_toArray, List.set_cons_zero, List.set_cons_succ, i64_w, i32_w]
              rfl
            refine pure_ (i := 5) (N := some 21) (v := ?_) (a' := ?_) #[true, true, true, false, true, true, false, false, false, false] rfl rfl (any_of HT_.out (by kernel_rfl)) (fun _ _ _ h => h) (Or.inl ⟨by rfl, ?_⟩) ?_ ?_
            rotate_left
            · intro w'
              go_simp
              with_reducible rfl
            rotate_left
            · simp only [Act.put, List.setIfInBounds_toArray, List.set_cons_zero, List.set_cons_succ, i64_w, i32_w]
              rfl
            refine pure_ (i := 6) (N := some 22) (v := ?_) (a' := ?_) #[true, true, true, false, true, true, true, false, false, false] rfl rfl (any_of HT_.out (by kernel_rfl)) (fun _ _ _ h => h) (Or.inl ⟨by rfl, ?_⟩) ?_ ?_
            rotate_left
            · intro w'
              go_simp
              with_reducible rfl
            rotate_left
            · simp only [Act.put, List.setIfInBounds_toArray, List.set_cons_zero, List.set_cons_succ, i64_w, i32_w]
              rfl
            refine one_ (i := 3) (N := some 19) #[true, true, true, true, true, true, true, false, false, false] rfl rfl (one_of HT_.out (by kernel_rfl)) (by decide) (fun K hK => ?_)
            refine goes_ Try.func22 (by kernel_rfl) rfl #[.slice A22 (l0.drop ((ji4) : Int).toNat).length (c0 - (ji4).toNat)] (by rfl) rfl rfl (by (try simp only [List.map_toArray, List.map_cons, List.map_nil]); first | done | (rw [show (l0.drop ((ji4) : Int).toNat).length = (l0.length - (ji4).toNat) from List.length_drop] <;> rfl) | (simp only [hji4]; rfl) | rfl | (simp only [List.length_drop, List.length_take]; rfl)) ?_
            with_reducible refine (sum_sealed.calls k _ _ (l0.drop ((ji4) : Int).toNat) t124 _ ?side1 ?side2 A7.out).mono ?_
            (case side1 => repeat (first | exact (Kd.C_below HR123.out HB.out) | (with_reducible refine Kd.C_alloc ?_ _) | (with_reducible refine Kd.C_drewN ?_ _) | (with_reducible refine Kd.C_drew ?_)))
            (case side2 => exact HC123.out)
            rintro e w' ⟨rfl, ⟨nd, rfl⟩⟩
            refine ⟨_, rfl, ?_⟩
            refine hK.out _ _ trivial (fun hHeld => ?_)
            clear hK K
            refine norm_ (a' := ?_) ?_ ?_
            rotate_left
            · show Act.put _ (some 19) _ = _
              simp only [Act.put, List.setIfInBounds_toArray, List.set_cons_zero, List.set_cons_succ, i64_w, i32_w]
              rfl
            refine one_ (i := 7) (N := some 23) #[true, true, true, true, true, true, true, true, false, false] rfl rfl (one_of HT_.out (by kernel_rfl)) (by decide) (fun K hK => ?_)
            refine goes_ Try.func14 (by kernel_rfl) rfl #[.slice A0 (l0.take ((ji4) : Int).toNat).length c0] (by rfl) rfl rfl (by (try simp only [List.map_toArray, List.map_cons, List.map_nil]); first | done | (rw [show (l0.take ((ji4) : Int).toNat).length = (ji4).toNat from (by rw [List.length_take]; have h_ : ((ji4) : Int) ≤ (l0.length : Int) := of_decide_eq_true (by first | (with_reducible assumption) | assumption); omega)] <;> rfl) | (simp only [hji4]; rfl) | rfl | (simp only [List.length_drop, List.length_take]; rfl)) ?_
            with_reducible refine (sum_Crc.calls _ _ (l0.take ((ji4) : Int).toNat) t126 _ ?side1 ?side2 A10.out).mono ?_
            (case side1 => repeat (first | exact (Kd.C_below HR125.out (by repeat (first | (with_reducible first | exact HB.out | apply below_alloc | apply pw_below_drewN | apply below_drew1) | exact HB.out))) | (with_reducible refine Kd.C_alloc ?_ _) | (with_reducible refine Kd.C_drewN ?_ _) | (with_reducible refine Kd.C_drew ?_)))
            (case side2 => exact HC125.out)
            rintro e w24 ⟨rfl, hb⟩
            refine ⟨_, rfl, ?_⟩
            have n0_ := Aside0.mk (below_step (by repeat (first | (with_reducible first | exact HB.out | apply below_alloc | apply pw_below_drewN | apply below_drew1) | exact HB.out)) hb)
            clear HB
            have HB := n0_
            clear n0_
            (try clear hb)
            (try clear hb2)
            (try clear hk)
            (try clear hi)
            refine hK.out _ _ trivial (fun hHeld => ?_)
            clear hK K
            refine norm_ (a' := ?_) ?_ ?_
            rotate_left
            · show Act.put _ (some 23) _ = _
              simp only [Act.put, List.setIfInBounds_toArray, List.set_cons_zero, List.set_cons_succ, i64_w, i32_w]
              rfl
            refine pure_ (i := 8) (N := some 24) (v := ?_) (a' := ?_) #[true, true, true, true, true, true, true, true, true, false] rfl rfl (any_of HT_.out (by kernel_rfl)) (fun _ _ _ h => h) (Or.inl ⟨by rfl, ?_⟩) ?_ ?_
            rotate_left
            · intro w'
              go_simp
              with_reducible rfl
            rotate_left
            · simp only [Act.put, List.setIfInBounds_toArray, List.set_cons_zero, List.set_cons_succ, i64_w, i32_w]
              rfl
            refine pure_ (i := 9) (N := some 15) (v := ?_) (a' := ?_) #[true, true, true, true, true, true, true, true, true, true] rfl rfl (any_of HT_.out (by kernel_rfl)) (fun _ _ _ h => h) (Or.inl ⟨by rfl, ?_⟩) ?_ ?_
            rotate_left
            · intro w'
              go_simp
              with_reducible rfl
            rotate_left
            · simp only [Act.put, List.setIfInBounds_toArray, List.set_cons_zero, List.set_cons_succ, i64_w, i32_w]
              rfl
            refine done_ (done_of HT_.out (by kernel_rfl)) ?_
            try go_wp2
            go_ret2
            exact ⟨_, by first | rfl | (simp [errW_none, errW_some] <;> rfl) | (simp only [← hji4]; first | rfl | (simp [errW_none, errW_some] <;> rfl)) | (simp [*, errW_none, errW_some] <;> rfl), by first | exact Kd.R_nil _ _ _ _ _ | exact Kd.N_nil _ _ _ _ _ | exact Kd.V_nil _ _ _ _ _ | exact Kd.Q_nil _ _ _ _ _ | exact Kd.S_nil _ _ _ _ _, by repeat (first | (with_reducible first | exact HB.out | apply below_alloc | apply pw_below_drewN | apply below_drew1) | exact HB.out)⟩
        · rw [if_neg c6] at H
          exact absurd H (by simp)
      · rw [if_neg c5] at H
        exact absurd H (by simp)

/-! ### gimbalref02_Open: function 13 (by hand) -/
/-- One step, as the reference has it. -/
theorem step_odd (v : BitVec 32) (h : (Int.tmod (v.toNat : Int) 2) = 1) : Go.bits .xor .u32 ((v.toNat : Int) / 2) 3988292384 = ((CrcMath.st1 v).toNat : Int) := by
  have e3 : ((v.toNat : Int) / (2 : Int)) = ((v >>> 1).toNat : Int) := by
    have : (v >>> 1).toNat = v.toNat / 2 := by rw [BitVec.toNat_ushiftRight, Nat.shiftRight_eq_div_pow]
    rw [this]
    omega
  have e4 : (3988292384 : Int) = ((CrcMath.poly).toNat : Int) := by decide
  have e5 : v.getLsbD 0 = true := by
    rw [BitVec.getLsbD, Nat.testBit_zero]
    rw [Int.tmod_eq_emod_of_nonneg (by omega)] at h
    simp
    omega
  rw [e3, e4, bits_xor32]
  unfold CrcMath.st1
  rw [e5, if_pos rfl]
theorem step_even (v : BitVec 32) (h : ¬ (Int.tmod (v.toNat : Int) 2) = 1) : ((v.toNat : Int) / 2) = ((CrcMath.st1 v).toNat : Int) := by
  have e3 : ((v.toNat : Int) / (2 : Int)) = ((v >>> 1).toNat : Int) := by
    have : (v >>> 1).toNat = v.toNat / 2 := by rw [BitVec.toNat_ushiftRight, Nat.shiftRight_eq_div_pow]
    rw [this]
    omega
  have e5 : v.getLsbD 0 = false := by
    rw [BitVec.getLsbD, Nat.testBit_zero]
    rw [Int.tmod_eq_emod_of_nonneg (by omega)] at h
    simp
    omega
  rw [e3]
  unfold CrcMath.st1
  rw [e5, if_neg (by decide), BitVec.xor_zero]
theorem wrap64_small {n : Int} (h0 : 0 ≤ n) (h1 : n < 9223372036854775808) : wrap64 n = n := by unfold wrap64; omega
theorem refCrc_bits (l : List Int) (x4 : Int) (d : Nat) : ∀ (k : Nat) (v : BitVec 32) (j : Int), 0 ≤ j → 8 - j = d →
    gimbalref02_Crc.l1 (k + d + 1) l (v.toNat : Int) x4 j = gimbalref02_Crc.l0 k l ((CrcMath.stN d v).toNat : Int) (wrap64 (x4 + 1)) := by
  induction d with
  | zero =>
    intro k v j h0 hd
    rw [gimbalref02_Crc.l1, if_neg (by omega)]
    rfl
  | succ d ih =>
    intro k v j h0 hd
    rw [show k + (d + 1) + 1 = (k + d + 1) + 1 by omega]
    rw [gimbalref02_Crc.l1, if_pos (by omega), wrap64_small (by omega) (by omega)]
    by_cases h : (Int.tmod (v.toNat : Int) 2) = 1
    · rw [if_pos h, step_odd v h, ih k (CrcMath.st1 v) (j + 1) (by omega) (by omega)]
      rfl
    · rw [if_neg h, step_even v h, ih k (CrcMath.st1 v) (j + 1) (by omega) (by omega)]
      rfl
theorem refCrc_loop (l : List Int) (hl : l.length ≤ 140737488355328) (d : Nat) : ∀ (k : Nat) (i : Nat), i + d = l.length →
    gimbalref02_Crc.l0 (k + 10 * d + 1) l ((CrcMath.crcS CrcMath.ones (l.take i)).toNat : Int) (i : Int) = some (crcI l) := by
  induction d with
  | zero =>
    intro k i hd
    rw [Nat.mul_zero, Nat.add_zero, gimbalref02_Crc.l0, if_neg (by omega), List.take_of_length_le (by omega), crcI_max]
  | succ d ih =>
    intro k i hd
    have hlt : i < l.length := by omega
    rw [show k + 10 * (d + 1) + 1 = (k + 10 * d + 1 + 8 + 1) + 1 by omega]
    rw [gimbalref02_Crc.l0, if_pos (by omega), if_pos (by omega), bits_byte32, refCrc_bits l i 8 (k + 10 * d + 1) _ 0 (by omega) (by omega), wrap64_small (by omega) (by omega)]
    have h := crcS_snoc CrcMath.ones l i hlt
    rw [← CrcMath.stN_add 4 4] at h
    rw [← h]
    have := ih k (i + 1) (by omega)
    simpa using this
theorem refCrc_spec (l : List Int) (hl : l.length ≤ 140737488355328) (k : Nat) (hk : 10 * l.length < k) : gimbalref02_Crc.f k l = some (crcI l) := by
  have := refCrc_loop l hl l.length (k - (10 * l.length + 1)) 0 (by omega)
  rw [show k - (10 * l.length + 1) + 10 * l.length + 1 = k by omega] at this
  exact this
/-- What four bytes tell, lowest first (as the reference adds them up). -/
def sum4 (l : List Int) (m : Nat) : Int := (rd l m + rd l (m + 1 : Nat) % 4294967296 * 256 + rd l (m + 2 : Nat) % 4294967296 * 65536 + rd l (m + 3 : Nat) % 4294967296 * 16777216) % 4294967296
def gimbalref02_Open.f (l0 : List Int) : Option (List Int × Int) :=
  if l0.length > 65536 then some ([], 5) else if l0.length < 4 then some ([], 3) else
    if sum4 l0 (l0.length - 4) = crcI (l0.take (l0.length - 4)) then some (l0.take (l0.length - 4), 0) else some ([], 20)
set_option maxHeartbeats 8000000 in
set_option maxRecDepth 100000 in
theorem gimbalref02_Open.calls (A0 : Option Addr) (c0 : Nat) (l0 : List Int) (r1 : List Int) (r2 : Int) (w : World) (hr0 : Kd.C (Kd.int .u8) w A0 l0.length l0) (hc0 : l0.length ≤ c0) (h : gimbalref02_Open.f l0 = some (r1, r2)) :
    Calls Try.prog 13 #[.slice A0 l0.length c0] w fun e w' => ∃ v0_ : Value, e = .returned (.tuple #[v0_, .int .i64 r2]) ∧ Kd.R (Kd.int .u8) 5 w' w.heap.size (fun _ => True) v0_ r1 ∧ Below w.heap.size w w' := by
  have info5 : (Try.prog.info? 5).map (fun i => (i.zero, i.size, i.bytes)) = some (some (.int .u8 0), 1, 1) := by kernel_rfl
  unfold gimbalref02_Open.f at h
  by_cases h1 : l0.length > 65536
  · rw [if_pos h1] at h
    obtain ⟨rfl, rfl⟩ := Prod.mk.inj (Option.some.inj h)
    have hb : (65536 : Int) < (l0.length : Int) := by omega
    clear h hr0 hc0 h1
    go_enter Try.func13, Try.ntmps13
    go_wp2_with fail
    go_ret2
    exact ⟨_, rfl, Kd.R_nil _ _ _ _ _, Below.refl _ _⟩
  rw [if_neg h1] at h
  have hb : (l0.length : Int) ≤ 65536 := by omega
  by_cases h2 : l0.length < 4
  · rw [if_pos h2] at h
    obtain ⟨rfl, rfl⟩ := Prod.mk.inj (Option.some.inj h)
    have hb2 : (l0.length : Int) < 4 := by omega
    clear h hr0 hc0 h1 h2
    go_enter Try.func13, Try.ntmps13
    go_wp2_with fail
    go_ret2
    exact ⟨_, rfl, Kd.R_nil _ _ _ _ _, Below.refl _ _⟩
  rw [if_neg h2] at h
  have hb2 : (4 : Int) ≤ (l0.length : Int) := by omega
  have HR0 := Aside0.mk hr0
  have HC0 := Aside0.mk hc0
  obtain ⟨m, hm⟩ : ∃ m, m = l0.length - 4 := ⟨_, rfl⟩
  have hm2 : (l0.length : Int) - 4 = (m : Int) := by omega
  rw [← hm] at h
  obtain ⟨ad, e1, hx0⟩ := Kd.at_int HR0.out (m : Int) (by omega) (by omega)
  cases e1
  obtain ⟨_, e1, hx1⟩ := Kd.at_int HR0.out ((m + 1 : Nat) : Int) (by omega) (by omega)
  cases e1
  obtain ⟨_, e1, hx2⟩ := Kd.at_int HR0.out ((m + 2 : Nat) : Int) (by omega) (by omega)
  cases e1
  obtain ⟨_, e1, hx3⟩ := Kd.at_int HR0.out ((m + 3 : Nat) : Int) (by omega) (by omega)
  cases e1
  rw [Int.toNat_natCast] at hx0 hx1 hx2 hx3
  obtain ⟨i0, hi, _, hsz, _⟩ := info_parts info5
  obtain ⟨hcut, hA, hC⟩ := print_take_of (P := Try.prog) (Value.int .u8) 0 22 5 .i64 Try.underlying22 hi hsz (some ad) c0 l0 (m : Int) (by omega) (by omega) HC0.out
  have HR1 := Aside0.mk (Kd.C_of_reads (h1 := fun _ => rfl) (hA w (Kd.reads_of_C HR0.out)))
  have HC1 := Aside0.mk hC
  have HK := refCrc_spec (l0.take m) (by rw [List.length_take]; omega) (10 * (l0.take m).length + 1) (by omega)
  have ht : (l0.take m).length = m := by rw [List.length_take]; omega
  have hl1 : (m : Int) + 4 = (l0.length : Int) := by omega
  have HL := Aside0.mk hl1
  have HM := Aside0.mk hm
  have b0 : (0 : Int) ≤ (m : Int) := by omega
  have b1 : (m : Int) < (l0.length : Int) := by omega
  have b2 : (m : Int) + 1 < (l0.length : Int) := by omega
  have b3 : (m : Int) + 2 < (l0.length : Int) := by omega
  have b4 : (m : Int) + 3 < (l0.length : Int) := by omega
  have b5 : (m : Int) ≤ (l0.length : Int) := by omega
  have H := Aside0.mk h
  rw [Int.toNat_natCast] at hcut HR1 HC1
  have HQ := Aside0.mk (fun n => (gimbalref02_Crc.calls _ (some ad) c0 (l0.take m) _ (w.drewN n) (Kd.C_drewN HR1.out n) HC1.out HK).mono (fun e w' (h : _ ∧ _) => (⟨h.1, h.2.out⟩ : e = .returned (.int .u32 (crcI (l0.take m))) ∧ ∃ m', w' = (w.drewN n).drewN m')))
  rw [ht] at hcut HQ
  clear hr0 hc0 hA hC hi hsz HK ht hl1 hm h h1 h2 info5
  go_enter Try.func13, Try.ntmps13
  go_wp2_with fail
  have v1 : IntKind.i64.wrap ((m : Int) + 1) = ((m + 1 : Nat) : Int) := by rw [IntKind.wrap_i64]; omega
  have v2 : IntKind.i64.wrap ((m : Int) + 2) = ((m + 2 : Nat) : Int) := by rw [IntKind.wrap_i64]; omega
  have v3 : IntKind.i64.wrap ((m : Int) + 3) = ((m + 3 : Nat) : Int) := by rw [IntKind.wrap_i64]; omega
  have c1 : ((m + 1 : Nat) : Int) < (l0.length : Int) := by omega
  have c2 : ((m + 2 : Nat) : Int) < (l0.length : Int) := by omega
  have c3 : ((m + 3 : Nat) : Int) < (l0.length : Int) := by omega
  have d1 : (0 : Int) ≤ ((m + 1 : Nat) : Int) := by omega
  have d2 : (0 : Int) ≤ ((m + 2 : Nat) : Int) := by omega
  have d3 : (0 : Int) ≤ ((m + 3 : Nat) : Int) := by omega
  generalize hm1 : m + 1 = m1 at *
  generalize hm2' : m + 2 = m2 at *
  generalize hm3 : m + 3 = m3 at *
  have HM1 := Aside0.mk hm1
  have HM2 := Aside0.mk hm2'
  have HM3 := Aside0.mk hm3
  clear hm1 hm2' hm3
  generalize crcI (l0.take m) = cc at *
  go_quiet ((go_at_call 15; exact Calls.quiet_of (HQ.out _)))
  have HX : ∀ z : Int, (rd l0 ↑m + rd l0 ↑m1 % 4294967296 * 256 + rd l0 ↑m2 % 4294967296 * 65536 + rd l0 ↑m3 % 4294967296 * 16777216) % 4294967296 = z → sum4 l0 m = z := by
    rw [← HM1.out, ← HM2.out, ← HM3.out]
    exact fun z h => h
  have HX' := Aside0.mk HX
  clear HX
  go_wp2_with fail
  · have hne : ((rd l0 ↑m + rd l0 ↑m1 % 4294967296 * 256 + rd l0 ↑m2 % 4294967296 * 65536 + rd l0 ↑m3 % 4294967296 * 16777216) % 4294967296 != cc) = true := by assumption
    have hne2 : ¬ sum4 l0 m = cc := by rw [HX'.out _ rfl]; simpa using hne
    have h := H.out
    rw [if_neg hne2] at h
    obtain ⟨rfl, rfl⟩ := Prod.mk.inj (Option.some.inj h)
    go_ret2
    exact ⟨_, rfl, Kd.R_nil _ _ _ _ _, pw_below_drewN (Below.refl _ _) _⟩
  · have hne : ((rd l0 ↑m + rd l0 ↑m1 % 4294967296 * 256 + rd l0 ↑m2 % 4294967296 * 65536 + rd l0 ↑m3 % 4294967296 * 16777216) % 4294967296 != cc) = false := by assumption
    have hne2 : sum4 l0 m = cc := by rw [HX'.out _ rfl]; simpa using hne
    have h := H.out
    rw [if_pos hne2] at h
    obtain ⟨rfl, rfl⟩ := Prod.mk.inj (Option.some.inj h)
    clear h hne hne2
    have hc := fun W hR => gimbalref00_CopyBytes.calls (some ad) c0 (l0.take m) (l0.take m) W hR HC1.out (by
      unfold gimbalref00_CopyBytes.f
      rw [if_pos (by have := HM.out; have := HC0.out; have := HC1.out; simp; omega)]
      rfl)
    rw [show (l0.take m).length = m by rw [List.length_take]; have := HM.out; omega] at hc HR1
    have HC := Aside0.mk hc
    clear hc
    refine (HC.out _ (Kd.C_drewN HR1.out _)).mono ?_
    rintro e w1 ⟨v, rfl, ho, hbb⟩
    have HO := Aside0.mk ho
    have HBB := Aside0.mk hbb
    clear ho hbb
    go_wp2_with fail
    go_ret2
    exact ⟨_, rfl, Kd.R_lower HO.out (by simp), (pw_below_drewN (Below.refl _ _) _).trans HBB.out⟩

/-! ### sum_Fnv: function 16 -/
def sum_Fnv.l0 : Nat → Int → List Int → Int → Int → Option (Int)
  | 0, _, _, _, _ => none
  | k + 1, x3, x6, x7, x8 => if x8 < x7 then (if 0 ≤ x8 then (if x8 < (x6.length : Int) then (sum_Fnv.l0 k (IntKind.u64.wrap ((Go.bits .xor .u64 x3 (IntKind.u64.wrap (rd x6 x8))) * 1099511628211)) x6 x7 (wrap64 (x8 + 1))) else (none)) else (none)) else (some x3)
def sum_Fnv.f (k : Nat) (l0 : List Int) : Option (Int) := sum_Fnv.l0 k 14695981039346656037 l0 (l0.length : Int) 0
theorem sum_Fnv.mono_l : ∀ k, (∀ y0 y1 y2 y3, LeO (sum_Fnv.l0 k y0 y1 y2 y3) (sum_Fnv.l0 (k + 1) y0 y1 y2 y3))
  | 0 => fun _ _ _ _ r h => by simp [sum_Fnv.l0] at h
  | k + 1 => by
    have ih0 := sum_Fnv.mono_l k
    · intro y0 y1 y2 y3
      unfold sum_Fnv.l0
      repeat' first
      | (with_reducible exact ih0 _ _ _ _)
      | (with_reducible exact LeO.refl _)
      | (with_reducible exact LeO.none _)
      | (with_reducible refine LeO.ite ?_ ?_)
      | (with_reducible refine LeO.bind ?_ (fun _ => ?_))
      | exact ih0 _ _ _ _
      | exact LeO.none _
      | refine LeO.ite ?_ ?_
      | refine LeO.bind ?_ (fun _ => ?_)
theorem sum_Fnv.mono : ∀ a0 k, LeO (sum_Fnv.f k a0) (sum_Fnv.f (k + 1) a0) := by
  intro a0 k
  have ih0 := sum_Fnv.mono_l k
  unfold sum_Fnv.f
  repeat' first
      | (with_reducible exact ih0 _ _ _ _)
      | (with_reducible exact LeO.refl _)
      | (with_reducible exact LeO.none _)
      | (with_reducible refine LeO.ite ?_ ?_)
      | (with_reducible refine LeO.bind ?_ (fun _ => ?_))
      | exact ih0 _ _ _ _
      | exact LeO.none _
      | refine LeO.ite ?_ ?_
      | refine LeO.bind ?_ (fun _ => ?_)
set_option maxHeartbeats 8000000 in
set_option maxRecDepth 100000 in
theorem sum_Fnv.calls (k : Nat) (A0 : Option Addr) (c0 : Nat) (l0 : List Int) (r : Int) (w : World) (hr0 : Kd.C (Kd.int .u8) w A0 l0.length l0) (hc0 : l0.length ≤ c0) (h : sum_Fnv.f k l0 = some r) :
    Calls Try.prog 16 #[.slice A0 l0.length c0] w fun e w' => e = .returned (.int .u64 r) ∧ Drawn0 w w' := by
  have HR0 := Aside0.mk hr0
  have HC0 := Aside0.mk hc0
  clear hr0 hc0
  have H : (sum_Fnv.l0 k 14695981039346656037 l0 (l0.length : Int) 0) = some r := h
  clear h
  have H' := Aside0.mk H
  clear H
  go_enter Try.func16, Try.ntmps16
  go_wp2
  go_loopg [3, 8] k (fun kq v3 v8 w' => ∃ (x3_1 : Int) (x8_1 : Int), v3 = .int .u64 x3_1 ∧ v8 = .int .i64 x8_1 ∧ Aside0 (sum_Fnv.l0 kq x3_1 l0 (l0.length : Int) x8_1 = some r) ∧ Aside0 (kq ≤ k) ∧ Drawn0 w w')
  case atStart => exact ⟨(14695981039346656037), (0), (by first | rfl | (simp; done) | (simp [*]; done)), (by first | rfl | (simp; done) | (simp [*]; done)), H', ⟨Nat.le_refl _⟩, by repeat (first | exact Drawn0.refl _ | apply Drawn0.step)⟩
  case round =>
    clear H'
    try clear c1
    obtain ⟨x3_1, x8_1, rfl, rfl, HA, HK1, ⟨m1, rfl⟩⟩ := hrel
    cases gk with
    | zero => exact absurd HA.out (by simp [sum_Fnv.l0])
    | succ k1 =>
      have H := HA.out
      clear HA
      simp only [sum_Fnv.l0] at H
      by_cases c2 : x8_1 < (l0.length : Int)
      · rw [if_pos c2] at H
        have c2b0 : decide (x8_1 < (l0.length : Int)) = true := decide_eq_true c2
        clear c2
        by_cases c3 : 0 ≤ x8_1
        · rw [if_pos c3] at H
          have c3b0 : decide (0 ≤ x8_1) = true := decide_eq_true c3
          clear c3
          by_cases c4 : x8_1 < (l0.length : Int)
          · rw [if_pos c4] at H
            have c4b0 : decide (x8_1 < (l0.length : Int)) = true := decide_eq_true c4
            clear c4
            have H' := Aside0.mk H
            clear H
            have p131 : 0 ≤ (x8_1 : Int) := of_decide_eq_true (by first | (with_reducible assumption) | assumption)
            have q131 : x8_1 < (l0.length : Int) := of_decide_eq_true (by first | (with_reducible assumption) | assumption)
            obtain ⟨ad131, e131, hx131_0⟩ := Kd.at_int HR0.out x8_1 p131 q131
            cases e131
            replace p131 := eq_true p131
            replace q131 := eq_true q131
            go_wp2
            go_roundg k1
            case measure => have := HK1.out; omega
            case rel => exact ⟨(IntKind.u64.wrap ((Go.bits .xor .u64 x3_1 (IntKind.u64.wrap (rd l0 x8_1))) * 1099511628211)), (wrap64 (x8_1 + 1)), (by first | rfl | (simp; done) | (simp [*]; done)), (by first | rfl | (simp; done) | (simp [*]; done)), H', ⟨by have := HK1.out; omega⟩, by repeat (first | exact Drawn0.refl _ | apply Drawn0.step)⟩
          · rw [if_neg c4] at H
            exact absurd H (by simp)
        · rw [if_neg c3] at H
          exact absurd H (by simp)
      · rw [if_neg c2] at H
        have c2b0 : decide (x8_1 < (l0.length : Int)) = false := decide_eq_false c2
        clear c2
        obtain rfl := Option.some.inj H
        go_wp2
        go_ret
        exact ⟨by first | rfl | (simp; done) | (simp [*]; done), by repeat (first | exact Drawn0.refl _ | apply Drawn0.step)⟩

/-! ### gimbalref02_Fnv: function 17 -/
def gimbalref02_Fnv.l0 : Nat → List Int → Int → Int → Option (Int)
  | 0, _, _, _ => none
  | k + 1, x0, x3, x4 => if x4 < (x0.length : Int) then (if 0 ≤ x4 then (gimbalref02_Fnv.l0 k x0 (IntKind.u64.wrap ((Go.bits .xor .u64 x3 (IntKind.u64.wrap (rd x0 x4))) * 1099511628211)) (wrap64 (x4 + 1))) else (none)) else (some x3)
def gimbalref02_Fnv.f (k : Nat) (l0 : List Int) : Option (Int) := gimbalref02_Fnv.l0 k l0 14695981039346656037 0
theorem gimbalref02_Fnv.mono_l : ∀ k, (∀ y0 y1 y2, LeO (gimbalref02_Fnv.l0 k y0 y1 y2) (gimbalref02_Fnv.l0 (k + 1) y0 y1 y2))
  | 0 => fun _ _ _ r h => by simp [gimbalref02_Fnv.l0] at h
  | k + 1 => by
    have ih0 := gimbalref02_Fnv.mono_l k
    · intro y0 y1 y2
      unfold gimbalref02_Fnv.l0
      repeat' first
      | (with_reducible exact ih0 _ _ _)
      | (with_reducible exact LeO.refl _)
      | (with_reducible exact LeO.none _)
      | (with_reducible refine LeO.ite ?_ ?_)
      | (with_reducible refine LeO.bind ?_ (fun _ => ?_))
      | exact ih0 _ _ _
      | exact LeO.none _
      | refine LeO.ite ?_ ?_
      | refine LeO.bind ?_ (fun _ => ?_)
theorem gimbalref02_Fnv.mono : ∀ a0 k, LeO (gimbalref02_Fnv.f k a0) (gimbalref02_Fnv.f (k + 1) a0) := by
  intro a0 k
  have ih0 := gimbalref02_Fnv.mono_l k
  unfold gimbalref02_Fnv.f
  repeat' first
      | (with_reducible exact ih0 _ _ _)
      | (with_reducible exact LeO.refl _)
      | (with_reducible exact LeO.none _)
      | (with_reducible refine LeO.ite ?_ ?_)
      | (with_reducible refine LeO.bind ?_ (fun _ => ?_))
      | exact ih0 _ _ _
      | exact LeO.none _
      | refine LeO.ite ?_ ?_
      | refine LeO.bind ?_ (fun _ => ?_)
set_option maxHeartbeats 8000000 in
set_option maxRecDepth 100000 in
theorem gimbalref02_Fnv.calls (k : Nat) (A0 : Option Addr) (c0 : Nat) (l0 : List Int) (r : Int) (w : World) (hr0 : Kd.C (Kd.int .u8) w A0 l0.length l0) (hc0 : l0.length ≤ c0) (h : gimbalref02_Fnv.f k l0 = some r) :
    Calls Try.prog 17 #[.slice A0 l0.length c0] w fun e w' => e = .returned (.int .u64 r) ∧ Drawn0 w w' := by
  have HR0 := Aside0.mk hr0
  have HC0 := Aside0.mk hc0
  clear hr0 hc0
  have H : (gimbalref02_Fnv.l0 k l0 14695981039346656037 0) = some r := h
  clear h
  have H' := Aside0.mk H
  clear H
  go_enter Try.func17, Try.ntmps17
  go_wp2
  go_loopg [3, 4] k (fun kq v3 v4 w' => ∃ (x3_1 : Int) (x4_1 : Int), v3 = .int .u64 x3_1 ∧ v4 = .int .i64 x4_1 ∧ Aside0 (gimbalref02_Fnv.l0 kq l0 x3_1 x4_1 = some r) ∧ Aside0 (kq ≤ k) ∧ Drawn0 w w')
  case atStart => exact ⟨(14695981039346656037), (0), (by first | rfl | (simp; done) | (simp [*]; done)), (by first | rfl | (simp; done) | (simp [*]; done)), H', ⟨Nat.le_refl _⟩, by repeat (first | exact Drawn0.refl _ | apply Drawn0.step)⟩
  case round =>
    clear H'
    try clear c1
    obtain ⟨x3_1, x4_1, rfl, rfl, HA, HK1, ⟨m1, rfl⟩⟩ := hrel
    cases gk with
    | zero => exact absurd HA.out (by simp [gimbalref02_Fnv.l0])
    | succ k1 =>
      have H := HA.out
      clear HA
      simp only [gimbalref02_Fnv.l0] at H
      by_cases c2 : x4_1 < (l0.length : Int)
      · rw [if_pos c2] at H
        have c2b0 : decide (x4_1 < (l0.length : Int)) = true := decide_eq_true c2
        clear c2
        by_cases c3 : 0 ≤ x4_1
        · rw [if_pos c3] at H
          have c3b0 : decide (0 ≤ x4_1) = true := decide_eq_true c3
          clear c3
          have H' := Aside0.mk H
          clear H
          have p132 : 0 ≤ (x4_1 : Int) := of_decide_eq_true (by first | (with_reducible assumption) | assumption)
          have q132 : x4_1 < (l0.length : Int) := of_decide_eq_true (by first | (with_reducible assumption) | assumption)
          obtain ⟨ad132, e132, hx132_0⟩ := Kd.at_int HR0.out x4_1 p132 q132
          cases e132
          replace p132 := eq_true p132
          replace q132 := eq_true q132
          go_wp2
          go_roundg k1
          case measure => have := HK1.out; omega
          case rel => exact ⟨(IntKind.u64.wrap ((Go.bits .xor .u64 x3_1 (IntKind.u64.wrap (rd l0 x4_1))) * 1099511628211)), (wrap64 (x4_1 + 1)), (by first | rfl | (simp; done) | (simp [*]; done)), (by first | rfl | (simp; done) | (simp [*]; done)), H', ⟨by have := HK1.out; omega⟩, by repeat (first | exact Drawn0.refl _ | apply Drawn0.step)⟩
        · rw [if_neg c3] at H
          exact absurd H (by simp)
      · rw [if_neg c2] at H
        have c2b0 : decide (x4_1 < (l0.length : Int)) = false := decide_eq_false c2
        clear c2
        obtain rfl := Option.some.inj H
        go_wp2
        go_ret
        exact ⟨by first | rfl | (simp; done) | (simp [*]; done), by repeat (first | exact Drawn0.refl _ | apply Drawn0.step)⟩

/-! ### gimbalref00_EqBytes: function 18 -/
def gimbalref00_EqBytes.f (l0 : List Int) (l1 : List Int) : Option (Bool) := some ((strOfNums l0).toList == (strOfNums l1).toList)
set_option maxHeartbeats 8000000 in
set_option maxRecDepth 100000 in
theorem gimbalref00_EqBytes.calls (A0 : Option Addr) (c0 : Nat) (l0 : List Int) (A1 : Option Addr) (c1 : Nat) (l1 : List Int) (r : Bool) (w : World) (hr0 : Kd.C (Kd.int .u8) w A0 l0.length l0) (hc0 : l0.length ≤ c0) (hr1 : Kd.C (Kd.int .u8) w A1 l1.length l1) (hc1 : l1.length ≤ c1) (h : gimbalref00_EqBytes.f l0 l1 = some r) :
    Calls Try.prog 18 #[.slice A0 l0.length c0, .slice A1 l1.length c1] w fun e w' => e = .returned (.bool r) ∧ Drawn0 w w' := by
  have HR0 := Aside0.mk hr0
  have HC0 := Aside0.mk hc0
  clear hr0 hc0
  have HR1 := Aside0.mk hr1
  have HC1 := Aside0.mk hc1
  clear hr1 hc1
  have H : (some ((strOfNums l0).toList == (strOfNums l1).toList)) = some r := h
  clear h
  obtain rfl := Option.some.inj H
  have hcv3 := Kd.C_string (P := Try.prog) (A := A0) (c := c0) Try.underlying22 Try.underlying5 Try.underlying9 HR0.out
  have hcv4 := Kd.C_string (P := Try.prog) (A := A1) (c := c1) Try.underlying22 Try.underlying5 Try.underlying9 HR1.out
  go_enter Try.func18, Try.ntmps18
  go_wp2
  go_ret
  exact ⟨by first | rfl | (simp; done) | (simp [*]; done), by repeat (first | exact Drawn0.refl _ | apply Drawn0.step)⟩

/-! ### gimballaw02_works: function 19 (by hand) -/
theorem lit_C (W : World) (e : Nat) (fr : Nat × Nat) (xs : List Int) (hm : xs.length ≤ 9223372036854775807) : Kd.C (Kd.int .u8) (W.alloc (.cells (nums .u8 xs).toArray e fr)) (some ⟨W.heap.size, 0, none⟩) xs.length xs := by
  refine Kd.C_of_reads (d := 0) (enc := fun x => Value.int .u8 x) (h1 := fun _ => rfl) ⟨rfl, hm, fun _ => ⟨_, rfl, fun j hj => ?_⟩⟩
  rw [add_plain, World.cell?_alloc_mark]
  simp [nums, List.getElem?_eq_getElem hj, List.getD_eq_getElem?_getD]
def gimballaw02_works.f : Option Bool := some true
theorem works1 : sum_Seal.f 10 [] = some ([0, 0, 0, 0], 0) := by decide +kernel
theorem works2 : sum_Open.f 10 [0, 0, 0, 1] = some ([], 20) := by decide +kernel
theorem works3 : sum_Open.f 10 [0] = some ([], 3) := by decide +kernel
theorem works4 : sum_Crc.f [49, 50, 51, 52, 53, 54, 55, 56, 57] = some 3421780262 := by decide +kernel
theorem works5 : sum_Crc.f [] = some 0 := by decide +kernel
theorem works6 : sum_Fnv.f 10 [] = some 14695981039346656037 := by decide +kernel
theorem works7 : sum_Fnv.f 10 [97] = some 12638187200555641996 := by decide +kernel
theorem works8 : gimbalref00_EqBytes.f [0, 0, 0, 0] [0, 0, 0, 0] = some true := by decide +kernel
theorem bnext {w w1 w2 : World} (hb : Below w.heap.size w w1) (o : Obj) (h : Below (w1.alloc o).heap.size (w1.alloc o) w2) : Below w.heap.size w w2 :=
  (below_alloc hb o).trans (h.mono (below_alloc hb o).size)
theorem bnext0 {w w1 w2 : World} (hb : Below w.heap.size w w1) (h : Below w1.heap.size w1 w2) : Below w.heap.size w w2 :=
  hb.trans (h.mono hb.size)
theorem drawn_below {w w' : World} (h : Drawn0 w w') : Below w.heap.size w w' := h.below
set_option maxHeartbeats 8000000 in
set_option maxRecDepth 100000 in
theorem gimballaw02_works.calls (r : Bool) (w : World) (h : gimballaw02_works.f = some r) :
    Calls Try.prog 19 #[] w fun e w' => e = .returned (.bool r) ∧ Below w.heap.size w w' := by
  obtain rfl := Option.some.inj h
  clear h
  have kc := fun (w : World) (C : Array Value) (n c : Nat) => Lib.run_convert_bytes_const (P := Try.prog) w 22 5 C n c Try.underlying22 Try.underlying5
  go_enter Try.func19, Try.ntmps19
  go_wp2_with fail
  refine (sum_Seal.calls 10 none 0 [] _ _ _ (Kd.C_nil _ _) (Nat.le_refl _) works1).mono ?_
  rintro e w1 ⟨v1, rfl, ho, hb⟩
  have HS := Aside0.mk ho
  have HB := Aside0.mk hb
  clear ho hb
  go_wp2_with fail
  refine (sum_Open.calls 10 _ 4 [0, 0, 0, 1] _ _ _ (lit_C w1 5 (0, 0) [0, 0, 0, 1] (by decide)) (Nat.le_refl _) works2).mono ?_
  rintro e w2 ⟨v2, rfl, -, hb⟩
  have HB2 := Aside0.mk (bnext HB.out _ hb)
  have HS2 := Aside0.mk (Kd.R_below (Kd.R_alloc HS.out (.cells #[.int .u8 0, .int .u8 0, .int .u8 0, .int .u8 1] 5)) hb)
  clear hb HB HS
  go_wp2_with fail
  refine (sum_Open.calls 10 _ 1 [0] _ _ _ (lit_C w2 5 (0, 0) [0] (by decide)) (Nat.le_refl _) works3).mono ?_
  rintro e w3 ⟨v3, rfl, -, hb⟩
  have HB3 := Aside0.mk (bnext HB2.out _ hb)
  have HS3 := Aside0.mk (Kd.R_below (Kd.R_alloc HS2.out (.cells #[.int .u8 0] 5)) hb)
  clear hb HB2 HS2
  go_wp2_with fail
  refine (sum_Crc.calls _ 9 [49, 50, 51, 52, 53, 54, 55, 56, 57] _ _ (lit_C w3 5 (9, 10) [49, 50, 51, 52, 53, 54, 55, 56, 57] (by decide)) (Nat.le_refl _) works4).mono ?_
  rintro e w4 ⟨rfl, hb⟩
  have HB4 := Aside0.mk (bnext HB3.out _ hb)
  have HS4 := Aside0.mk (Kd.R_below (Kd.R_alloc HS3.out (.cells #[.int .u8 49, .int .u8 50, .int .u8 51, .int .u8 52, .int .u8 53, .int .u8 54, .int .u8 55, .int .u8 56, .int .u8 57] 5 (9, 10))) hb)
  clear hb HB3 HS3
  go_wp2_with fail
  refine (sum_Crc.calls none 0 [] _ _ (Kd.C_nil _ _) (Nat.le_refl _) works5).mono ?_
  rintro e w5 ⟨rfl, hb⟩
  have HB5 := Aside0.mk (bnext0 HB4.out hb)
  have HS5 := Aside0.mk (Kd.R_below HS4.out hb)
  clear hb HB4 HS4
  go_wp2_with fail
  refine (sum_Fnv.calls 10 none 0 [] _ _ (Kd.C_nil _ _) (Nat.le_refl _) works6).mono ?_
  rintro e w6 ⟨rfl, hd⟩
  have hb := hd.below
  have HB6 := Aside0.mk (bnext0 HB5.out hb)
  have HS6 := Aside0.mk (Kd.R_below HS5.out hb)
  clear hd hb HB5 HS5
  go_wp2_with fail
  refine (sum_Fnv.calls 10 _ 1 [97] _ _ (lit_C w6 5 (1, 2) [97] (by decide)) (Nat.le_refl _) works7).mono ?_
  rintro e w7 ⟨rfl, hd⟩
  have hb := hd.below
  have HB7 := Aside0.mk (bnext HB6.out _ hb)
  have HS7 := Aside0.mk (Kd.R_below (Kd.R_alloc HS6.out (.cells #[.int .u8 97] 5 (1, 2))) hb)
  clear hd hb HB6 HS6
  obtain ⟨A, c, hv, hc, hr⟩ := Kd.R_reads HS7.out
  subst hv
  have HR := Aside0.mk (Kd.C_alloc hr (.cells #[.int .u8 0, .int .u8 0, .int .u8 0, .int .u8 0] 5))
  have HCc := Aside0.mk hc
  clear hc hr
  go_wp2_with fail
  refine (gimbalref00_EqBytes.calls A c [0, 0, 0, 0] _ 4 [0, 0, 0, 0] _ _ HR.out HCc.out (lit_C w7 5 (0, 0) [0, 0, 0, 0] (by decide)) (Nat.le_refl _) works8).mono ?_
  rintro e w8 ⟨rfl, hd⟩
  have hb := hd.below
  have HB8 := Aside0.mk (bnext HB7.out _ hb)
  clear hd hb HB7 HS7 HR HCc
  go_wp2_with fail
  go_ret
  exact ⟨rfl, HB8.out⟩

end Go.Proofs.Ytijkbnfiphhohaa.PSumKnown
