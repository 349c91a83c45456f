/- Contract of item.Check. -/
import Derived.Test.YtmeblifbkhpdnaaDoorGb
import Derived.Test.YtmeblifbkhpdnaaDoorGa
namespace Go.Proofs.YtmeblifbkhpdnaaDoor.K
set_option linter.unusedVariables false
set_option linter.unusedSimpArgs false
open Go.RowKit Go.Proofs.YtmeblifbkhpdnaaDoorW.PrintWords Go.Proofs.YtmeblifbkhpdnaaDoorW.PrintLast Go.Proofs.YtmeblifbkhpdnaaDoorW.PrintMore
abbrev Opn := S36
def kOp : Kd Opn := k36
def may (k what : Int) (a b : Bool) : Bool := (iHas k what && a) || (!iHas k what && b)
set_option maxHeartbeats 800000 in
theorem item_Check_1 (w : World) (b : Nat) (k what : Int) (x y : Bool) (hG : GItem w) (hc : w.cell? ⟨b, 0, none⟩ = some (.int .i64 k)) :
    Calls Tryd.prog 95 #[.int .i64 what, .bool x, .bool y, .pointer (some ⟨b, 0, none⟩)] w fun en w' => en = .returned (.bool (may k what x y)) ∧ w = w' := by
  have HG := Aside0.mk hG
  clear hG
  unfold may
  go_enter Tryd.func95, Tryd.ntmps95
  go_wp2_with fail
  refine (item_has _ k what HG.out).mono ?_
  rintro en w1 ⟨rfl, rfl⟩
  cases h : iHas k what
  · go_wp2_with fail
    refine (item_has _ k what HG.out).mono ?_
    rintro en w1 ⟨rfl, rfl⟩
    go_wp2_with fail
    go_ret
    exact ⟨by simp [h], rfl⟩
  · cases x
    · go_wp2_with fail
      refine (item_has _ k what HG.out).mono ?_
      rintro en w1 ⟨rfl, rfl⟩
      go_wp2_with fail
      go_ret
      exact ⟨by simp [h], rfl⟩
    · go_wp2_with fail
      go_ret
      exact ⟨by simp [h], rfl⟩
def opN (o : Opn) : Bool := qty o.f3 || (iHas o.f0 8 && qty (wrap64 (-o.f3)))
def opOk (o : Opn) : Bool :=
  within o.f0 1 9 && (may o.f0 1 (nameOk o.f1) o.f1.toList.isEmpty && (may o.f0 2 (qty o.f2) (o.f2 == 0) && (may o.f0 4 (opN o) (o.f3 == 0) && may o.f0 16 (linesOk o.f4) ((o.f4.length : Int) == 0))))
def opE (o : Opn) : Int := if opOk o then 0 else 2
/-- What the box of an op holds, while the call goes on. -/
abbrev OpS (w0 : World) (b : Nat) (k : Int) (s : ByteArray) (r n : Int) (v : Value) (W : World) : Prop :=
  W.cell? ⟨b, 0, none⟩ = some (.int .i64 k) ∧ W.cell? ⟨b, 1, none⟩ = some (.string s) ∧ W.cell? ⟨b, 2, none⟩ = some (.int .i64 r) ∧ W.cell? ⟨b, 3, none⟩ = some (.int .i64 n) ∧ W.cell? ⟨b, 4, none⟩ = some v ∧ Aside0 (Below b w0 W)
theorem OpS.next {w0 W W' : World} {b : Nat} {k : Int} {s : ByteArray} {r n : Int} {v : Value} (h : OpS w0 b k s r n v W) (hb : Below W.heap.size W W') : OpS w0 b k s r n v W' := by
  obtain ⟨h0, h1, h2, h3, h4, h5⟩ := h
  have hlt : b < W.heap.size := cell_blk h0
  exact ⟨(hb.cell (p := ⟨b, 0, none⟩) hlt).trans h0, (hb.cell (p := ⟨b, 1, none⟩) hlt).trans h1, (hb.cell (p := ⟨b, 2, none⟩) hlt).trans h2, (hb.cell (p := ⟨b, 3, none⟩) hlt).trans h3, (hb.cell (p := ⟨b, 4, none⟩) hlt).trans h4, ⟨h5.out.trans (hb.mono (by omega))⟩⟩
theorem OpS.low {w0 W : World} {b : Nat} {k : Int} {s : ByteArray} {r n : Int} {v : Value} (h : OpS w0 b k s r n v W) : Below b w0 W := h.2.2.2.2.2.out
theorem OpS.drew {w0 W : World} {b : Nat} {k : Int} {s : ByteArray} {r n : Int} {v : Value} (h : OpS w0 b k s r n v W) : OpS w0 b k s r n v W.drew := h.next (Below.refl _ _ |>.drew)
theorem OpS.drewN {w0 W : World} {b : Nat} {k : Int} {s : ByteArray} {r n : Int} {v : Value} (h : OpS w0 b k s r n v W) (q : Nat) : OpS w0 b k s r n v (W.drewN q) := h.next ⟨rfl, rfl, rfl, Nat.le_refl _, fun _ _ => rfl⟩
theorem OpS.next' {w0 W W' : World} {b : Nat} {k : Int} {s : ByteArray} {r n : Int} {v : Value} (hb : Below W.heap.size W W') (h : OpS w0 b k s r n v W) : OpS w0 b k s r n v W' := h.next hb
theorem OpS.made (w : World) (k : Int) (s : ByteArray) (r n : Int) (v : Value) (t : TypeId) : OpS w w.heap.size k s r n v (w.alloc (.cells #[.int .i64 k, .string s, .int .i64 r, .int .i64 n, v] t)) :=
  ⟨by simp, by simp, by simp, by simp, by simp, ⟨below_alloc (Below.refl _ _) _⟩⟩
def ok3 (k : Int) (s : ByteArray) (r : Int) : Bool := within k 1 9 && (may k 1 (nameOk s) s.toList.isEmpty && may k 2 (qty r) (r == 0))
set_option maxRecDepth 20000 in
set_option maxHeartbeats 8000000 in
theorem item_Check (w : World) (A : Option Addr) (c : Nat) (o : Opn) (hG : GItem w) (hA : kLine.C w A o.f4.length o.f4) (hc : o.f4.length ≤ c) :
    Calls Tryd.prog 81 #[.agg #[.int .i64 o.f0, .string o.f1, .int .i64 o.f2, .int .i64 o.f3, .slice A o.f4.length c]] w fun en w' => en = .returned (.int .i64 (opE o)) ∧ Below w.heap.size w w' := by
  have HG := Aside0.mk hG
  have HA := Aside0.mk hA
  have HC := Aside0.mk hc
  clear hG hA hc
  obtain ⟨k, s, r, n, l⟩ := o
  go_enter Tryd.func81, Tryd.ntmps81
  go_upto_region 2 with fail
  go_cut [4] (fun s4 wx => s4 = .bool (opN ⟨k, s, r, n, l⟩) ∧ OpS w w.heap.size k s r n (.slice A l.length c) wx)
  case first =>
    go_wp2_with fail
    refine (item_quantity _ n).mono ?_
    rintro en w1 ⟨rfl, rfl⟩
    cases h1 : qty n
    · go_wp2_with fail
      refine (item_has _ k 8 (HG.out.below (below_alloc (Below.refl _ _) _))).mono ?_
      rintro en w1 ⟨rfl, rfl⟩
      cases h2 : iHas k 8
      · go_wp2_with fail
        go_meet
        exact ⟨by simp [opN, h1, h2], OpS.made _ _ _ _ _ _ _⟩
      · go_wp2_with fail
        refine (item_quantity _ (wrap64 (-n))).mono ?_
        rintro en w1 ⟨rfl, rfl⟩
        go_wp2_with fail
        go_meet
        exact ⟨by simp [opN, h1, h2], OpS.made _ _ _ _ _ _ _⟩
    · go_wp2_with fail
      go_meet
      exact ⟨by simp [opN, h1], OpS.made _ _ _ _ _ _ _⟩
  case rest =>
    obtain ⟨rfl, hS⟩ := hcut
    generalize hN4 : opN ⟨k, s, r, n, l⟩ = N4 at *
    go_upto_region 3 with fail
    go_cut [5] (fun s5 wx => s5 = .bool (ok3 k s r) ∧ OpS w w.heap.size k s r n (.slice A l.length c) wx)
    case first =>
      have c1 := fun W => item_within W k 1 9
      have hG' := fun W (h : OpS w w.heap.size k s r n (.slice A l.length c) W) => HG.out.keep h.2.2.2.2.2.out HG.out.lt
      cases hA : within k 1 9
      · rw [hA] at c1
        have hS' := hS
        obtain ⟨hs0, hs1, hs2, hs3, hs4, _⟩ := hS'
        have HS := Aside0.mk hS
        clear hS
        go_quiet ((go_at_call 97; refine Calls.quiet_of_same ((c1 _).mono fun _ _ h => ⟨h.1, h.2.symm⟩)))
        go_wp2_with fail
        go_meet
        exact ⟨by unfold ok3; rw [hA]; rfl, HS.out.drewN _⟩
      · have c2 := fun W h => item_Check_1 W w.heap.size k 1 (nameOk s) s.toList.isEmpty (hG' W h) h.1
        have c3 := fun W h => item_Check_1 W w.heap.size k 2 (qty r) (r == 0) (hG' W h) h.1
        cases hM : may k 1 (nameOk s) s.toList.isEmpty
        · rw [hA] at c1
          rw [hM] at c2
          refine wp_region_held_drew (S := fun w' => OpS w w.heap.size k s r n (.slice A l.length c) w') (by kernel_rfl) hS.drew (fun hHeld => ?_)
          clear hG' hS
          refine takeH (i := 0) (some 21) (v := ?_) rfl rfl (by kernel_rfl) (by kernel_rfl) (by kernel_rfl) (fun _ _ _ h => h) (Or.inl ⟨by kernel_rfl, ?_⟩) (by assumption) ?_
          rotate_left
          · (rintro w' ⟨s0, s1, s2, s3, s4, s5⟩; go_simp; first | done | with_reducible rfl)
          simp only [Act.put, List.setIfInBounds_toArray, List.set_cons_zero, List.set_cons_succ]
          refine takeH (i := 1) (some 22) (v := ?_) rfl rfl (by kernel_rfl) (by kernel_rfl) (by kernel_rfl) (fun _ _ _ h => h) (Or.inl ⟨by kernel_rfl, ?_⟩) (by assumption) ?_
          rotate_left
          · (rintro w' ⟨s0, s1, s2, s3, s4, s5⟩; go_simp; first | done | with_reducible rfl)
          simp only [Act.put, List.setIfInBounds_toArray, List.set_cons_zero, List.set_cons_succ]
          refine wpAnyH_ready (rs := [2]) (by kernel_rfl) (by simp) ?_
          refine AllReadyH.cons rfl (fun K hK => ?_) AllReadyH.nil
          go_simp
          refine (c1 _).mono ?_; rintro e w' ⟨rfl, rfl⟩
          refine hK.out _ _ ?_ (fun hHeld => ?_)
          · first | assumption | (apply OpS.drew; assumption) | (apply OpS.next'; assumption; assumption)
          clear hK K
          try simp only [Act.put, List.setIfInBounds_toArray, List.set_cons_zero, List.set_cons_succ]
          refine takeH (i := 3) (some 24) (v := ?_) rfl rfl (by kernel_rfl) (by kernel_rfl) (by kernel_rfl) (fun _ _ _ h => h) (Or.inl ⟨by kernel_rfl, ?_⟩) (by assumption) ?_
          rotate_left
          · (rintro w' ⟨s0, s1, s2, s3, s4, s5⟩; go_simp; first | done | with_reducible rfl)
          simp only [Act.put, List.setIfInBounds_toArray, List.set_cons_zero, List.set_cons_succ]
          refine takeH (i := 4) (some 25) (v := ?_) rfl rfl (by kernel_rfl) (by kernel_rfl) (by kernel_rfl) (fun _ _ _ h => h) (Or.inl ⟨by kernel_rfl, ?_⟩) (by assumption) ?_
          rotate_left
          · (rintro w' ⟨s0, s1, s2, s3, s4, s5⟩; go_simp; first | done | with_reducible rfl)
          simp only [Act.put, List.setIfInBounds_toArray, List.set_cons_zero, List.set_cons_succ]
          refine takeH (i := 5) (some 26) (v := ?_) rfl rfl (by kernel_rfl) (by kernel_rfl) (by kernel_rfl) (fun _ _ _ h => h) (Or.inl ⟨by kernel_rfl, ?_⟩) (by assumption) ?_
          rotate_left
          · (rintro w' ⟨s0, s1, s2, s3, s4, s5⟩; go_simp; first | done | with_reducible rfl)
          simp only [Act.put, List.setIfInBounds_toArray, List.set_cons_zero, List.set_cons_succ]
          refine takeH (i := 6) (some 27) (v := ?_) rfl rfl (by kernel_rfl) (by kernel_rfl) (by kernel_rfl) (fun _ _ _ h => h) (Or.inl ⟨by kernel_rfl, ?_⟩) (by assumption) ?_
          rotate_left
          · (rintro w' ⟨s0, s1, s2, s3, s4, s5⟩; go_simp; first | done | with_reducible rfl)
          simp only [Act.put, List.setIfInBounds_toArray, List.set_cons_zero, List.set_cons_succ]
          refine takeH (i := 8) (some 29) (v := ?_) rfl rfl (by kernel_rfl) (by kernel_rfl) (by kernel_rfl) (fun _ _ _ h => h) (Or.inl ⟨by kernel_rfl, ?_⟩) (by assumption) ?_
          rotate_left
          · (rintro w' ⟨s0, s1, s2, s3, s4, s5⟩; go_simp; first | done | with_reducible rfl)
          simp only [Act.put, List.setIfInBounds_toArray, List.set_cons_zero, List.set_cons_succ]
          refine takeH (i := 9) (some 30) (v := ?_) rfl rfl (by kernel_rfl) (by kernel_rfl) (by kernel_rfl) (fun _ _ _ h => h) (Or.inl ⟨by kernel_rfl, ?_⟩) (by assumption) ?_
          rotate_left
          · (rintro w' ⟨s0, s1, s2, s3, s4, s5⟩; go_simp; first | done | with_reducible rfl)
          simp only [Act.put, List.setIfInBounds_toArray, List.set_cons_zero, List.set_cons_succ]
          refine takeH (i := 10) (some 31) (v := ?_) rfl rfl (by kernel_rfl) (by kernel_rfl) (by kernel_rfl) (fun _ _ _ h => h) (Or.inl ⟨by kernel_rfl, ?_⟩) (by assumption) ?_
          rotate_left
          · (rintro w' ⟨s0, s1, s2, s3, s4, s5⟩; go_simp; first | done | with_reducible rfl)
          simp only [Act.put, List.setIfInBounds_toArray, List.set_cons_zero, List.set_cons_succ]
          refine wpAnyH_ready (rs := [7]) (by kernel_rfl) (by simp) ?_
          refine AllReadyH.cons rfl (fun K hK => ?_) AllReadyH.nil
          go_simp
          refine (item_Name _ s).mono ?_; rintro e w' ⟨rfl, hb⟩
          refine hK.out _ _ ?_ (fun hHeld => ?_)
          · first | assumption | (apply OpS.drew; assumption) | (apply OpS.next'; assumption; assumption)
          clear hK K
          try simp only [Act.put, List.setIfInBounds_toArray, List.set_cons_zero, List.set_cons_succ]
          refine wpAnyH_ready (rs := [11]) (by kernel_rfl) (by simp) ?_
          refine AllReadyH.cons rfl (fun K hK => ?_) AllReadyH.nil
          go_simp
          refine (c2 _ ?_).mono ?_; assumption; rintro e w' ⟨rfl, rfl⟩
          refine hK.out _ _ ?_ (fun hHeld => ?_)
          · first | assumption | (apply OpS.drew; assumption) | (apply OpS.next'; assumption; assumption)
          clear hK K
          try simp only [Act.put, List.setIfInBounds_toArray, List.set_cons_zero, List.set_cons_succ]
          refine takeH (i := 12) (some 33) (v := ?_) rfl rfl (by kernel_rfl) (by kernel_rfl) (by kernel_rfl) (fun _ _ _ h => h) (Or.inl ⟨by kernel_rfl, ?_⟩) (by assumption) ?_
          rotate_left
          · (rintro w' ⟨s0, s1, s2, s3, s4, s5⟩; go_simp; first | done | with_reducible rfl)
          simp only [Act.put, List.setIfInBounds_toArray, List.set_cons_zero, List.set_cons_succ]
          refine takeH (i := 13) (some 34) (v := ?_) rfl rfl (by kernel_rfl) (by kernel_rfl) (by kernel_rfl) (fun _ _ _ h => h) (Or.inl ⟨by kernel_rfl, ?_⟩) (by assumption) ?_
          rotate_left
          · (rintro w' ⟨s0, s1, s2, s3, s4, s5⟩; go_simp; first | done | with_reducible rfl)
          simp only [Act.put, List.setIfInBounds_toArray, List.set_cons_zero, List.set_cons_succ]
          refine skipH (i := 14) (some 35) rfl rfl (by kernel_rfl) (by kernel_rfl) (by kernel_rfl) (fun _ _ _ h => h) (by kernel_rfl) (by assumption) ?_
          simp only [Act.put, List.setIfInBounds_toArray, List.set_cons_zero, List.set_cons_succ]
          refine skipH (i := 15) (some 36) rfl rfl (by kernel_rfl) (by kernel_rfl) (by kernel_rfl) (fun _ _ _ h => h) (by kernel_rfl) (by assumption) ?_
          simp only [Act.put, List.setIfInBounds_toArray, List.set_cons_zero, List.set_cons_succ]
          refine skipH (i := 16) (some 37) rfl rfl (by kernel_rfl) (by kernel_rfl) (by kernel_rfl) (fun _ _ _ h => h) (by kernel_rfl) (by assumption) ?_
          simp only [Act.put, List.setIfInBounds_toArray, List.set_cons_zero, List.set_cons_succ]
          refine skipH (i := 17) (some 38) rfl rfl (by kernel_rfl) (by kernel_rfl) (by kernel_rfl) (fun _ _ _ h => h) (by kernel_rfl) (by assumption) ?_
          simp only [Act.put, List.setIfInBounds_toArray, List.set_cons_zero, List.set_cons_succ]
          refine skipH (i := 18) (some 39) rfl rfl (by kernel_rfl) (by kernel_rfl) (by kernel_rfl) (fun _ _ _ h => h) (by kernel_rfl) (by assumption) ?_
          simp only [Act.put, List.setIfInBounds_toArray, List.set_cons_zero, List.set_cons_succ]
          refine skipH (i := 19) (some 40) rfl rfl (by kernel_rfl) (by kernel_rfl) (by kernel_rfl) (fun _ _ _ h => h) (by kernel_rfl) (by assumption) ?_
          simp only [Act.put, List.setIfInBounds_toArray, List.set_cons_zero, List.set_cons_succ]
          refine skipH (i := 20) (some 41) rfl rfl (by kernel_rfl) (by kernel_rfl) (by kernel_rfl) (fun _ _ _ h => h) (by kernel_rfl) (by assumption) ?_
          simp only [Act.put, List.setIfInBounds_toArray, List.set_cons_zero, List.set_cons_succ]
          refine skipH (i := 21) (some 42) rfl rfl (by kernel_rfl) (by kernel_rfl) (by kernel_rfl) (fun _ _ _ h => h) (by kernel_rfl) (by assumption) ?_
          simp only [Act.put, List.setIfInBounds_toArray, List.set_cons_zero, List.set_cons_succ]
          refine takeH (i := 22) (some 43) (v := ?_) rfl rfl (by kernel_rfl) (by kernel_rfl) (by kernel_rfl) (fun _ _ _ h => h) (Or.inl ⟨by kernel_rfl, ?_⟩) (by assumption) ?_
          rotate_left
          · (rintro w' ⟨s0, s1, s2, s3, s4, s5⟩; go_simp; first | done | with_reducible rfl)
          simp only [Act.put, List.setIfInBounds_toArray, List.set_cons_zero, List.set_cons_succ]
          refine takeH (i := 23) (some 5) (v := ?_) rfl rfl (by kernel_rfl) (by kernel_rfl) (by kernel_rfl) (fun _ _ _ h => h) (Or.inl ⟨by kernel_rfl, ?_⟩) (by assumption) ?_
          rotate_left
          · (rintro w' ⟨s0, s1, s2, s3, s4, s5⟩; go_simp; first | done | with_reducible rfl)
          simp only [Act.put, List.setIfInBounds_toArray, List.set_cons_zero, List.set_cons_succ]
          refine wpAnyH_done (by kernel_rfl) ?_ _
          go_wp2_with fail
          go_meet
          exact ⟨by unfold ok3; rw [hA, hM]; rfl, by assumption⟩
        · rw [hA] at c1
          rw [hM] at c2
          clear hG'
          go_region_held3 (fun w' => OpS w w.heap.size k s r n (.slice A l.length c) w') (first | assumption | (apply OpS.drew; assumption) | (apply OpS.next'; assumption; assumption))
            (first
              | (go_at_call 97; refine (c1 _).mono ?_; rintro e w' ⟨rfl, rfl⟩)
              | (go_at_call 96; refine (item_quantity _ r).mono ?_; rintro e w' ⟨rfl, rfl⟩)
              | (go_at_call 98; refine (item_Name _ s).mono ?_; rintro e w' ⟨rfl, hb⟩)
              | (go_at_call_of 95 (Value.int IntKind.i64 1); refine (c2 _ ?_).mono ?_; assumption; rintro e w' ⟨rfl, rfl⟩)
              | (go_at_call_of 95 (Value.int IntKind.i64 2); refine (c3 _ ?_).mono ?_; assumption; rintro e w' ⟨rfl, rfl⟩))
          all_goals (go_wp2_with fail; go_meet; exact ⟨by unfold ok3; rw [hA, hM]; rfl, by assumption⟩)
    case rest =>
      clear hS
      obtain ⟨rfl, hS⟩ := hcut
      have hOk : opOk ⟨k, s, r, n, l⟩ = (ok3 k s r && (may k 4 N4 (n == 0) && may k 16 (linesOk l) ((l.length : Int) == 0))) := by
        rw [← hN4]
        unfold opOk ok3
        simp only [Bool.and_assoc]
      clear hN4
      have HOk := Aside0.mk hOk
      have hG' := fun W (h : OpS w w.heap.size k s r n (.slice A l.length c) W) => HG.out.keep h.2.2.2.2.2.out HG.out.lt
      have c4 := fun W h => item_Check_1 W w.heap.size k 4 N4 (n == 0) (hG' W h) h.1
      have c5 := fun W h => item_Check_1 W w.heap.size k 16 (linesOk l) ((l.length : Int) == 0) (hG' W h) h.1
      have HL := fun W (h : OpS w w.heap.size k s r n (.slice A l.length c) W) => item_lines W A c l (Kd.C_below HA.out h.2.2.2.2.2.out) HC.out
      clear hOk hG'
      cases hB : ok3 k s r
      · have HS := Aside0.mk hS
        clear hS c4 c5 HL
        go_wp2_with fail
        go_quiet (fail)
        go_wp2_with fail
        go_ret
        exact ⟨by unfold opE; rw [HOk.out, hB]; rfl, (HS.out.drewN _).2.2.2.2.2.out⟩
      · cases hM : may k 4 N4 (n == 0)
        · rw [hM] at c4
          have HS := Aside0.mk hS
          obtain ⟨hs0, hs1, hs2, hs3, hs4, _⟩ := hS
          have C4 := Aside0.mk c4
          clear c4 c5 HL
          go_wp2_with fail
          go_quiet ((go_at_call 95; refine Calls.quiet_of_same ((C4.out _ (HS.out.drewN _)).mono fun _ _ h => ⟨h.1, h.2.symm⟩)))
          go_wp2_with fail
          go_ret
          exact ⟨by unfold opE; rw [HOk.out, hB, hM]; rfl, (HS.out.drewN _).2.2.2.2.2.out⟩
        · rw [hM] at c4
          go_wp2_with fail
          go_region_held3 (fun w' => OpS w w.heap.size k s r n (.slice A l.length c) w') (first | assumption | (apply OpS.drew; assumption) | (apply OpS.next'; assumption; assumption))
            (first
              | (go_at_call 99; refine (HL _ ?_).mono ?_; assumption; rintro e w' ⟨rfl, hb⟩)
              | (go_at_call_of 95 (Value.int IntKind.i64 4); refine (c4 _ ?_).mono ?_; assumption; rintro e w' ⟨rfl, rfl⟩)
              | (go_at_call_of 95 (Value.int IntKind.i64 16); refine (c5 _ ?_).mono ?_; assumption; rintro e w' ⟨rfl, rfl⟩))
          all_goals (
            have hE := HOk.out
            rw [hB, hM] at hE
            cases hF : may k 16 (linesOk l) ((l.length : Int) == 0)
            · rw [hF] at hE
              have HE := Aside0.mk hE
              clear hE c4 c5 HL
              go_wp2_with fail
              go_ret
              exact ⟨by unfold opE; rw [HE.out]; rfl, OpS.low (k := k) (s := s) (r := r) (n := n) (v := .slice A l.length c) (by assumption)⟩
            · rw [hF] at hE
              have HE := Aside0.mk hE
              clear hE c4 c5 HL
              go_wp2_with fail
              go_ret
              exact ⟨by unfold opE; rw [HE.out]; rfl, OpS.low (k := k) (s := s) (r := r) (n := n) (v := .slice A l.length c) (by assumption)⟩)
end Go.Proofs.YtmeblifbkhpdnaaDoor.K
