/- Texts of this claim, put together: what its theorem does not use is left out. No conditions. -/
import Derived.Test.YtmeblifbkhpdnaaDoorVb
namespace Go.Proofs.YtmeblifbkhpdnaaDoor.K
set_option linter.unusedVariables false
set_option linter.unusedSimpArgs false
open Go.RowKit Go.Proofs.YtmeblifbkhpdnaaDoorW.PrintWords Go.Proofs.YtmeblifbkhpdnaaDoorW.PrintLast Go.Proofs.YtmeblifbkhpdnaaDoorW.PrintMore
attribute [local go_sem] max2_int min2_int max_two min_two max_three min_three max_four min_four   -- for this text's walks alone
theorem eqA118 (d : Nat) (w : World) (x0 y0 : ByteArray) (x1 y1 : Int) :
    (Op.equalIn (d + 2) 118 (.agg #[.string x0, .int .i64 x1]) (.agg #[.string y0, .int .i64 y1])).run Tryd.prog w = .ok (x0.toList == y0.toList && (x1 == y1)) w := by
  refine eqA_of Tryd.underlying118 (by kernel_rfl) ?_
  refine eqf_cons (by rfl) (by go_simp; rfl) (by go_simp; rfl) (by go_simp) ?_
  exact eqf_last (by rfl) (by go_simp; rfl) (by go_simp; rfl) (by go_simp)
attribute [local go_sem high] eqA118
def api_Line.l0 : Nat → List (S118) → List (S118) → Int → Int → Option (Bool)
  | 0, _, _, _, _ => none
  | k + 1, x0, x1, x12, x13 => if x13 < x12 then (if 0 ≤ x13 then (if x13 < (x0.length : Int) then (if x13 < (x1.length : Int) then (if (!((((rd_T118 x0 x13).f0).toList) == (((rd_T118 x1 x13).f0).toList)) || (!(((rd_T118 x0 x13).f1) == ((rd_T118 x1 x13).f1)))) = true then (some false) else (api_Line.l0 k x0 x1 x12 (wrap64 (x13 + 1)))) else (none)) else (none)) else (none)) else (some true)
def api_Line.f (k : Nat) (l0 : List (S118)) (l1 : List (S118)) : Option (Bool) := if (l0.length : Int) = (l1.length : Int) then (api_Line.l0 k l0 l1 (l0.length : Int) 0) else (some false)
set_option maxHeartbeats 8000000 in
set_option maxRecDepth 100000 in
theorem api_Line.calls (k : Nat) (A0 : Option Addr) (c0 : Nat) (l0 : List (S118)) (A1 : Option Addr) (c1 : Nat) (l1 : List (S118)) (r : Bool) (w : World) (hr0 : Kd.C k118 w A0 l0.length l0) (hc0 : l0.length ≤ c0) (hr1 : Kd.C k118 w A1 l1.length l1) (hc1 : l1.length ≤ c1) (h : api_Line.f k l0 l1 = some r) :
    Calls Tryd.prog 100 #[.slice A0 l0.length c0, .slice A1 l1.length c1] w fun e w' => e = .returned (.bool r) ∧ Drawn0 w w' := by
  have hu118 := Tryd.underlying118
  have HR0 := Aside0.mk hr0
  have HC0 := Aside0.mk hc0
  clear hr0 hc0
  have HR1 := Aside0.mk hr1
  have HC1 := Aside0.mk hc1
  clear hr1 hc1
  have H : (if (l0.length : Int) = (l1.length : Int) then (api_Line.l0 k l0 l1 (l0.length : Int) 0) else (some false)) = some r := h
  clear h
  by_cases c3 : (l0.length : Int) = (l1.length : Int)
  · rw [if_pos c3] at H
    have c3b0 : ((l0.length : Int) == (l1.length : Int)) = true := beq_iff_eq.mpr c3
    have c3b1 : ((l0.length : Int) != (l1.length : Int)) = false := bne_eq_false_iff_eq.mpr c3
    have c3b2 : (l0.length == l1.length) = true := by first | simpa using c3 | (simp at c3 ⊢; omega)
    clear c3
    have H' := Aside0.mk H
    clear H
    go_enter Tryd.func100, Tryd.ntmps100
    go_wp2
    repeat (go_quiet (fail); try go_wp2)
    go_loopg [13] k (fun kq v13 w' => ∃ (x13_1 : Int), v13 = .int .i64 x13_1 ∧ Aside0 (api_Line.l0 kq l0 l1 (l0.length : Int) x13_1 = some r) ∧ Aside0 (kq ≤ k) ∧ Drawn0 w w')
    case atStart => exact ⟨(0), (by first | rfl | (simp; done) | (simp [*]; done)), H', ⟨Nat.le_refl _⟩, by repeat (first | exact Drawn0.refl _ | apply Drawn0.step)⟩
    case round =>
      clear H'
      try clear c1
      try clear p2
      try clear c3
      try clear c3b0
      try clear c3b1
      try clear c3b2
      obtain ⟨x13_1, rfl, HA, HK1, ⟨m1, rfl⟩⟩ := hrel
      cases gk with
      | zero => exact absurd HA.out (by simp [api_Line.l0])
      | succ k1 =>
        have H := HA.out
        clear HA
        simp only [api_Line.l0] at H
        by_cases c4 : x13_1 < (l0.length : Int)
        · rw [if_pos c4] at H
          have c4b0 : decide (x13_1 < (l0.length : Int)) = true := decide_eq_true c4
          clear c4
          by_cases c5 : 0 ≤ x13_1
          · rw [if_pos c5] at H
            have c5b0 : decide (0 ≤ x13_1) = true := decide_eq_true c5
            clear c5
            by_cases c6 : x13_1 < (l0.length : Int)
            · rw [if_pos c6] at H
              have c6b0 : decide (x13_1 < (l0.length : Int)) = true := decide_eq_true c6
              clear c6
              by_cases c7 : x13_1 < (l1.length : Int)
              · rw [if_pos c7] at H
                have c7b0 : decide (x13_1 < (l1.length : Int)) = true := decide_eq_true c7
                clear c7
                by_cases c8 : (!((((rd_T118 l0 x13_1).f0).toList) == (((rd_T118 l1 x13_1).f0).toList)) || (!(((rd_T118 l0 x13_1).f1) == ((rd_T118 l1 x13_1).f1)))) = true
                · rw [if_pos c8] at H
                  have c8b0 : (!((((rd_T118 l0 x13_1).f0).toList) == (((rd_T118 l1 x13_1).f0).toList)) || (!(((rd_T118 l0 x13_1).f1) == ((rd_T118 l1 x13_1).f1)))) = true := c8
                  clear c8
                  obtain rfl := Option.some.inj H
                  have p108 : 0 ≤ (x13_1 : Int) := of_decide_eq_true (by first | (with_reducible assumption) | assumption)
                  have q108 : x13_1 < (l0.length : Int) := of_decide_eq_true (by first | (with_reducible assumption) | assumption)
                  obtain ⟨ad108, e108, hx108_0, hx108_1⟩ := at_T118 HR0.out x13_1 p108 q108
                  cases e108
                  replace p108 := eq_true p108
                  replace q108 := eq_true q108
                  have p109 : 0 ≤ (x13_1 : Int) := of_decide_eq_true (by first | (with_reducible assumption) | assumption)
                  have q109 : x13_1 < (l1.length : Int) := of_decide_eq_true (by first | (with_reducible assumption) | assumption)
                  obtain ⟨ad109, e109, hx109_0, hx109_1⟩ := at_T118 HR1.out x13_1 p109 q109
                  cases e109
                  replace p109 := eq_true p109
                  replace q109 := eq_true q109
                  go_wp2
                  repeat (go_quiet (fail); try go_wp2)
                  go_ret
                  exact ⟨by first | rfl | (simp; done) | (simp [*]; done), by repeat (first | exact Drawn0.refl _ | apply Drawn0.step)⟩
                · rw [if_neg c8] at H
                  have c8b0 : (!((((rd_T118 l0 x13_1).f0).toList) == (((rd_T118 l1 x13_1).f0).toList)) || (!(((rd_T118 l0 x13_1).f1) == ((rd_T118 l1 x13_1).f1)))) = false := by simpa using c8
                  clear c8
                  have H' := Aside0.mk H
                  clear H
                  have p108 : 0 ≤ (x13_1 : Int) := of_decide_eq_true (by first | (with_reducible assumption) | assumption)
                  have q108 : x13_1 < (l0.length : Int) := of_decide_eq_true (by first | (with_reducible assumption) | assumption)
                  obtain ⟨ad108, e108, hx108_0, hx108_1⟩ := at_T118 HR0.out x13_1 p108 q108
                  cases e108
                  replace p108 := eq_true p108
                  replace q108 := eq_true q108
                  have p109 : 0 ≤ (x13_1 : Int) := of_decide_eq_true (by first | (with_reducible assumption) | assumption)
                  have q109 : x13_1 < (l1.length : Int) := of_decide_eq_true (by first | (with_reducible assumption) | assumption)
                  obtain ⟨ad109, e109, hx109_0, hx109_1⟩ := at_T118 HR1.out x13_1 p109 q109
                  cases e109
                  replace p109 := eq_true p109
                  replace q109 := eq_true q109
                  go_wp2
                  repeat (go_quiet (fail); try go_wp2)
                  go_roundg k1
                  case measure => have := HK1.out; omega
                  case rel => exact ⟨(wrap64 (x13_1 + 1)), (by first | rfl | (simp; done) | (simp [*]; done)), H', ⟨by have := HK1.out; omega⟩, by repeat (first | exact Drawn0.refl _ | apply Drawn0.step)⟩
              · rw [if_neg c7] at H
                exact absurd H (by simp)
            · rw [if_neg c6] at H
              exact absurd H (by simp)
          · rw [if_neg c5] at H
            exact absurd H (by simp)
        · rw [if_neg c4] at H
          have c4b0 : decide (x13_1 < (l0.length : Int)) = false := decide_eq_false c4
          clear c4
          obtain rfl := Option.some.inj H
          go_wp2
          repeat (go_quiet (fail); try go_wp2)
          go_ret
          exact ⟨by first | rfl | (simp; done) | (simp [*]; done), by repeat (first | exact Drawn0.refl _ | apply Drawn0.step)⟩
  · rw [if_neg c3] at H
    have c3b0 : ((l0.length : Int) == (l1.length : Int)) = false := beq_eq_false_iff_ne.mpr c3
    have c3b1 : ((l0.length : Int) != (l1.length : Int)) = true := bne_iff_ne.mpr c3
    have c3b2 : (l0.length == l1.length) = false := by first | simpa using c3 | (simp at c3 ⊢; omega)
    obtain rfl := Option.some.inj H
    go_enter Tryd.func100, Tryd.ntmps100
    go_wp2
    repeat (go_quiet (fail); try go_wp2)
    go_ret
    exact ⟨by first | rfl | (simp; done) | (simp [*]; done), by repeat (first | exact Drawn0.refl _ | apply Drawn0.step)⟩
def item_Same.f (k : Nat) (a0_0 : Int) (a0_1 : ByteArray) (a0_2 : Int) (a0_3 : Int) (l0_4 : List (S118)) (a1_0 : Int) (a1_1 : ByteArray) (a1_2 : Int) (a1_3 : Int) (l1_4 : List (S118)) : Option (Bool) := if a0_0 = a1_0 then (if a0_1.toList = a1_1.toList then (if a0_2 = a1_2 then (if a0_3 = a1_3 then ((api_Line.f k l0_4 l1_4).bind fun t112 => (some t112)) else (some false)) else (some false)) else (some false)) else (some false)
set_option maxHeartbeats 8000000 in
set_option maxRecDepth 100000 in
theorem item_Same.calls (k : Nat) (a0_0 : Int) (a0_1 : ByteArray) (a0_2 : Int) (a0_3 : Int) (A0_4 : Option Addr) (c0_4 : Nat) (l0_4 : List (S118)) (a1_0 : Int) (a1_1 : ByteArray) (a1_2 : Int) (a1_3 : Int) (A1_4 : Option Addr) (c1_4 : Nat) (l1_4 : List (S118)) (r : Bool) (w : World) (hr0_4 : Kd.C k118 w A0_4 l0_4.length l0_4) (hc0_4 : l0_4.length ≤ c0_4) (hr1_4 : Kd.C k118 w A1_4 l1_4.length l1_4) (hc1_4 : l1_4.length ≤ c1_4) (h : item_Same.f k a0_0 a0_1 a0_2 a0_3 l0_4 a1_0 a1_1 a1_2 a1_3 l1_4 = some r) :
    Calls Tryd.prog 82 #[.agg #[.int .i64 a0_0, .string a0_1, .int .i64 a0_2, .int .i64 a0_3, .slice A0_4 l0_4.length c0_4], .agg #[.int .i64 a1_0, .string a1_1, .int .i64 a1_2, .int .i64 a1_3, .slice A1_4 l1_4.length c1_4]] w fun e w' => e = .returned (.bool r) ∧ Below w.heap.size w w' := by
  have hu36 := Tryd.underlying36
  have HR0_4 := Aside0.mk hr0_4
  have HC0_4 := Aside0.mk hc0_4
  clear hr0_4 hc0_4
  have HR1_4 := Aside0.mk hr1_4
  have HC1_4 := Aside0.mk hc1_4
  clear hr1_4 hc1_4
  have HB := Aside0.mk (Below.refl w.heap.size w)
  have H : (if a0_0 = a1_0 then (if a0_1.toList = a1_1.toList then (if a0_2 = a1_2 then (if a0_3 = a1_3 then ((api_Line.f k l0_4 l1_4).bind fun t112 => (some t112)) else (some false)) else (some false)) else (some false)) else (some false)) = some r := h
  clear h
  by_cases c3 : a0_0 = a1_0
  · rw [if_pos c3] at H
    have c3b0 : (a0_0 == a1_0) = true := beq_iff_eq.mpr c3
    have c3b1 : (a0_0 != a1_0) = false := bne_eq_false_iff_eq.mpr c3
    clear c3
    by_cases c4 : a0_1.toList = a1_1.toList
    · rw [if_pos c4] at H
      have c4b0 : (a0_1.toList == a1_1.toList) = true := beq_iff_eq.mpr c4
      have c4b1 : (a0_1.toList != a1_1.toList) = false := bne_eq_false_iff_eq.mpr c4
      clear c4
      by_cases c5 : a0_2 = a1_2
      · rw [if_pos c5] at H
        have c5b0 : (a0_2 == a1_2) = true := beq_iff_eq.mpr c5
        have c5b1 : (a0_2 != a1_2) = false := bne_eq_false_iff_eq.mpr c5
        clear c5
        by_cases c6 : a0_3 = a1_3
        · rw [if_pos c6] at H
          have c6b0 : (a0_3 == a1_3) = true := beq_iff_eq.mpr c6
          have c6b1 : (a0_3 != a1_3) = false := bne_eq_false_iff_eq.mpr c6
          clear c6
          replace H := Option.bind_eq_some_iff.mp H
          obtain ⟨t112, A70, H⟩ := H
          replace H : (some t112) = some r := H
          have A7 := Aside0.mk A70
          clear A70
          obtain rfl := Option.some.inj H
          go_enter Tryd.func82, Tryd.ntmps82
          go_wp2_with (first | ((with_reducible refine gate_dst (N := 2) rfl ?_); refine box_event ?hg (N := 2) ?hd (cs := #[.int .i64 a0_0, .string a0_1, .int .i64 a0_2, .int .i64 a0_3, .slice A0_4 l0_4.length c0_4]) (t := 36) ?hr ?_; (case hd => rfl); (case hg => rfl); (case hr => first | (go_simp; done) | (go_simp; rfl)); intro gb110 hg w8 hbox hb; have n0_ := Aside0.mk (below_step (by repeat (first | (with_reducible first | exact HB.out | apply below_alloc | apply pw_below_drewN | apply below_drew1) | exact HB.out)) hb); have n1_ := Aside0.mk (hbox); have n2_ := Aside0.mk ((by rw [hg]; exact (below_size (by repeat (first | (with_reducible first | exact HB.out | apply below_alloc | apply pw_below_drewN | apply below_drew1) | exact HB.out))) : w.heap.size ≤ gb110)); have n3_ := Aside0.mk ((by rw [hg]; exact (below_size (by repeat (first | (with_reducible first | exact HB.out | apply below_alloc | apply pw_below_drewN | apply below_drew1) | exact HB.out))) : w.heap.size ≤ gb110)); clear HB; have HB := n0_; have BK110 := n1_; have GW110 := n2_; have GE110 := n3_; clear n0_ n1_ n2_ n3_; clear hb hbox hg) | ((with_reducible refine gate_dst (N := 3) rfl ?_); refine box_event ?hg (N := 3) ?hd (cs := #[.int .i64 a1_0, .string a1_1, .int .i64 a1_2, .int .i64 a1_3, .slice A1_4 l1_4.length c1_4]) (t := 36) ?hr ?_; (case hd => rfl); (case hg => rfl); (case hr => first | (go_simp; done) | (go_simp; rfl)); intro gb111 hg w9 hbox hb; have n0_ := Aside0.mk (blk_below (g := gb110) (o := .cells #[.int .i64 a0_0, .string a0_1, .int .i64 a0_2, .int .i64 a0_3, .slice A0_4 l0_4.length c0_4] 36 (0, 0)) (by (with_reducible repeat (first | refine blk_drewN ?_ _ | refine blk_drew ?_ | refine blk_alloc ?_ _)); exact BK110.out) hb); have n1_ := Aside0.mk (below_step (by repeat (first | (with_reducible first | exact HB.out | apply below_alloc | apply pw_below_drewN | apply below_drew1 | refine below_set ?_ GE110.out) | exact HB.out)) hb); have n2_ := Aside0.mk (hbox); have n3_ := Aside0.mk ((by rw [hg]; exact (below_size (by repeat (first | (with_reducible first | exact HB.out | apply below_alloc | apply pw_below_drewN | apply below_drew1 | refine below_set ?_ GE110.out) | exact HB.out))) : w.heap.size ≤ gb111)); have n4_ := Aside0.mk ((by rw [hg]; exact (below_size (by repeat (first | (with_reducible first | exact HB.out | apply below_alloc | apply pw_below_drewN | apply below_drew1 | refine below_set ?_ GE110.out) | exact HB.out))) : w.heap.size ≤ gb111)); have n5_ := Aside0.mk ((by rw [hg]; exact Nat.ne_of_lt (blk_lt (g := gb110) (o := .cells #[.int .i64 a0_0, .string a0_1, .int .i64 a0_2, .int .i64 a0_3, .slice A0_4 l0_4.length c0_4] 36 (0, 0)) (by (with_reducible repeat (first | refine blk_drewN ?_ _ | refine blk_drew ?_ | refine blk_alloc ?_ _)); exact BK110.out)) : gb110 ≠ gb111)); have n6_ := Aside0.mk ((by rw [hg]; exact Nat.ne_of_gt (blk_lt (g := gb110) (o := .cells #[.int .i64 a0_0, .string a0_1, .int .i64 a0_2, .int .i64 a0_3, .slice A0_4 l0_4.length c0_4] 36 (0, 0)) (by (with_reducible repeat (first | refine blk_drewN ?_ _ | refine blk_drew ?_ | refine blk_alloc ?_ _)); exact BK110.out)) : gb111 ≠ gb110)); clear BK110; clear HB; have BK110 := n0_; have HB := n1_; have BK111 := n2_; have GW111 := n3_; have GE111 := n4_; have NB110_111 := n5_; have NB111_110 := n6_; clear n0_ n1_ n2_ n3_ n4_ n5_ n6_; clear hb hbox hg; have hnb10 := NB110_111.out; have hnc10 := NB111_110.out; have hcz11_0 : w9.cell? ⟨gb110, 0, none⟩ = some (.int .i64 a0_0) := (blk_cell BK110.out 0).trans rfl; have hcz11_1 : w9.cell? ⟨gb110, 1, none⟩ = some (.string a0_1) := (blk_cell BK110.out 1).trans rfl; have hcz11_2 : w9.cell? ⟨gb110, 2, none⟩ = some (.int .i64 a0_2) := (blk_cell BK110.out 2).trans rfl; have hcz11_3 : w9.cell? ⟨gb110, 3, none⟩ = some (.int .i64 a0_3) := (blk_cell BK110.out 3).trans rfl; have hcz11_4 : w9.cell? ⟨gb110, 4, none⟩ = some (.slice A0_4 l0_4.length c0_4) := (blk_cell BK110.out 4).trans rfl; have hfz11_0 := blk_frozen BK110.out 0; have hfz11_1 := blk_frozen BK110.out 1; have hfz11_2 := blk_frozen BK110.out 2; have hfz11_3 := blk_frozen BK110.out 3; have hfz11_4 := blk_frozen BK110.out 4; have hcz12_0 : w9.cell? ⟨gb111, 0, none⟩ = some (.int .i64 a1_0) := (blk_cell BK111.out 0).trans rfl; have hcz12_1 : w9.cell? ⟨gb111, 1, none⟩ = some (.string a1_1) := (blk_cell BK111.out 1).trans rfl; have hcz12_2 : w9.cell? ⟨gb111, 2, none⟩ = some (.int .i64 a1_2) := (blk_cell BK111.out 2).trans rfl; have hcz12_3 : w9.cell? ⟨gb111, 3, none⟩ = some (.int .i64 a1_3) := (blk_cell BK111.out 3).trans rfl; have hcz12_4 : w9.cell? ⟨gb111, 4, none⟩ = some (.slice A1_4 l1_4.length c1_4) := (blk_cell BK111.out 4).trans rfl; have hfz12_0 := blk_frozen BK111.out 0; have hfz12_1 := blk_frozen BK111.out 1; have hfz12_2 := blk_frozen BK111.out 2; have hfz12_3 := blk_frozen BK111.out 3; have hfz12_4 := blk_frozen BK111.out 4) | (go_at_call 100; (with_reducible refine (api_Line.calls k _ _ l0_4 _ _ l1_4 t112 _ ?side1 ?side2 ?side3 ?side4 A7.out).mono ?_); (case side1 => repeat (first | exact (Kd.C_below HR0_4.out HB.out) | (with_reducible refine Kd.C_alloc ?_ _) | (with_reducible refine Kd.C_drewN ?_ _) | (with_reducible refine Kd.C_drew ?_))); (case side2 => exact HC0_4.out); (case side3 => repeat (first | exact (Kd.C_below HR1_4.out HB.out) | (with_reducible refine Kd.C_alloc ?_ _) | (with_reducible refine Kd.C_drewN ?_ _) | (with_reducible refine Kd.C_drew ?_))); (case side4 => exact HC1_4.out); rintro e w' ⟨rfl, ⟨nd, rfl⟩⟩))
          go_ret
          exact ⟨by first | rfl | (simp [errW_none, errW_some] <;> rfl) | (simp [*, errW_none, errW_some] <;> rfl), by repeat (first | (with_reducible first | exact HB.out | apply below_alloc | apply pw_below_drewN | apply below_drew1 | refine below_set ?_ GE110.out | refine below_set ?_ GE111.out) | exact HB.out)⟩
        · rw [if_neg c6] at H
          have c6b0 : (a0_3 == a1_3) = false := beq_eq_false_iff_ne.mpr c6
          have c6b1 : (a0_3 != a1_3) = true := bne_iff_ne.mpr c6
          obtain rfl := Option.some.inj H
          go_enter Tryd.func82, Tryd.ntmps82
          go_wp2_with (first | ((with_reducible refine gate_dst (N := 2) rfl ?_); refine box_event ?hg (N := 2) ?hd (cs := #[.int .i64 a0_0, .string a0_1, .int .i64 a0_2, .int .i64 a0_3, .slice A0_4 l0_4.length c0_4]) (t := 36) ?hr ?_; (case hd => rfl); (case hg => rfl); (case hr => first | (go_simp; done) | (go_simp; rfl)); intro gb110 hg w13 hbox hb; have n0_ := Aside0.mk (below_step (by repeat (first | (with_reducible first | exact HB.out | apply below_alloc | apply pw_below_drewN | apply below_drew1) | exact HB.out)) hb); have n1_ := Aside0.mk (hbox); have n2_ := Aside0.mk ((by rw [hg]; exact (below_size (by repeat (first | (with_reducible first | exact HB.out | apply below_alloc | apply pw_below_drewN | apply below_drew1) | exact HB.out))) : w.heap.size ≤ gb110)); have n3_ := Aside0.mk ((by rw [hg]; exact (below_size (by repeat (first | (with_reducible first | exact HB.out | apply below_alloc | apply pw_below_drewN | apply below_drew1) | exact HB.out))) : w.heap.size ≤ gb110)); clear HB; have HB := n0_; have BK110 := n1_; have GW110 := n2_; have GE110 := n3_; clear n0_ n1_ n2_ n3_; clear hb hbox hg) | ((with_reducible refine gate_dst (N := 3) rfl ?_); refine box_event ?hg (N := 3) ?hd (cs := #[.int .i64 a1_0, .string a1_1, .int .i64 a1_2, .int .i64 a1_3, .slice A1_4 l1_4.length c1_4]) (t := 36) ?hr ?_; (case hd => rfl); (case hg => rfl); (case hr => first | (go_simp; done) | (go_simp; rfl)); intro gb111 hg w14 hbox hb; have n0_ := Aside0.mk (blk_below (g := gb110) (o := .cells #[.int .i64 a0_0, .string a0_1, .int .i64 a0_2, .int .i64 a0_3, .slice A0_4 l0_4.length c0_4] 36 (0, 0)) (by (with_reducible repeat (first | refine blk_drewN ?_ _ | refine blk_drew ?_ | refine blk_alloc ?_ _)); exact BK110.out) hb); have n1_ := Aside0.mk (below_step (by repeat (first | (with_reducible first | exact HB.out | apply below_alloc | apply pw_below_drewN | apply below_drew1 | refine below_set ?_ GE110.out) | exact HB.out)) hb); have n2_ := Aside0.mk (hbox); have n3_ := Aside0.mk ((by rw [hg]; exact (below_size (by repeat (first | (with_reducible first | exact HB.out | apply below_alloc | apply pw_below_drewN | apply below_drew1 | refine below_set ?_ GE110.out) | exact HB.out))) : w.heap.size ≤ gb111)); have n4_ := Aside0.mk ((by rw [hg]; exact (below_size (by repeat (first | (with_reducible first | exact HB.out | apply below_alloc | apply pw_below_drewN | apply below_drew1 | refine below_set ?_ GE110.out) | exact HB.out))) : w.heap.size ≤ gb111)); have n5_ := Aside0.mk ((by rw [hg]; exact Nat.ne_of_lt (blk_lt (g := gb110) (o := .cells #[.int .i64 a0_0, .string a0_1, .int .i64 a0_2, .int .i64 a0_3, .slice A0_4 l0_4.length c0_4] 36 (0, 0)) (by (with_reducible repeat (first | refine blk_drewN ?_ _ | refine blk_drew ?_ | refine blk_alloc ?_ _)); exact BK110.out)) : gb110 ≠ gb111)); have n6_ := Aside0.mk ((by rw [hg]; exact Nat.ne_of_gt (blk_lt (g := gb110) (o := .cells #[.int .i64 a0_0, .string a0_1, .int .i64 a0_2, .int .i64 a0_3, .slice A0_4 l0_4.length c0_4] 36 (0, 0)) (by (with_reducible repeat (first | refine blk_drewN ?_ _ | refine blk_drew ?_ | refine blk_alloc ?_ _)); exact BK110.out)) : gb111 ≠ gb110)); clear BK110; clear HB; have BK110 := n0_; have HB := n1_; have BK111 := n2_; have GW111 := n3_; have GE111 := n4_; have NB110_111 := n5_; have NB111_110 := n6_; clear n0_ n1_ n2_ n3_ n4_ n5_ n6_; clear hb hbox hg; have hnb15 := NB110_111.out; have hnc15 := NB111_110.out; have hcz16_0 : w14.cell? ⟨gb110, 0, none⟩ = some (.int .i64 a0_0) := (blk_cell BK110.out 0).trans rfl; have hcz16_1 : w14.cell? ⟨gb110, 1, none⟩ = some (.string a0_1) := (blk_cell BK110.out 1).trans rfl; have hcz16_2 : w14.cell? ⟨gb110, 2, none⟩ = some (.int .i64 a0_2) := (blk_cell BK110.out 2).trans rfl; have hcz16_3 : w14.cell? ⟨gb110, 3, none⟩ = some (.int .i64 a0_3) := (blk_cell BK110.out 3).trans rfl; have hcz16_4 : w14.cell? ⟨gb110, 4, none⟩ = some (.slice A0_4 l0_4.length c0_4) := (blk_cell BK110.out 4).trans rfl; have hfz16_0 := blk_frozen BK110.out 0; have hfz16_1 := blk_frozen BK110.out 1; have hfz16_2 := blk_frozen BK110.out 2; have hfz16_3 := blk_frozen BK110.out 3; have hfz16_4 := blk_frozen BK110.out 4; have hcz17_0 : w14.cell? ⟨gb111, 0, none⟩ = some (.int .i64 a1_0) := (blk_cell BK111.out 0).trans rfl; have hcz17_1 : w14.cell? ⟨gb111, 1, none⟩ = some (.string a1_1) := (blk_cell BK111.out 1).trans rfl; have hcz17_2 : w14.cell? ⟨gb111, 2, none⟩ = some (.int .i64 a1_2) := (blk_cell BK111.out 2).trans rfl; have hcz17_3 : w14.cell? ⟨gb111, 3, none⟩ = some (.int .i64 a1_3) := (blk_cell BK111.out 3).trans rfl; have hcz17_4 : w14.cell? ⟨gb111, 4, none⟩ = some (.slice A1_4 l1_4.length c1_4) := (blk_cell BK111.out 4).trans rfl; have hfz17_0 := blk_frozen BK111.out 0; have hfz17_1 := blk_frozen BK111.out 1; have hfz17_2 := blk_frozen BK111.out 2; have hfz17_3 := blk_frozen BK111.out 3; have hfz17_4 := blk_frozen BK111.out 4))
          go_ret
          exact ⟨by first | rfl | (simp [errW_none, errW_some] <;> rfl) | (simp [*, errW_none, errW_some] <;> rfl), by repeat (first | (with_reducible first | exact HB.out | apply below_alloc | apply pw_below_drewN | apply below_drew1 | refine below_set ?_ GE110.out | refine below_set ?_ GE111.out) | exact HB.out)⟩
      · rw [if_neg c5] at H
        have c5b0 : (a0_2 == a1_2) = false := beq_eq_false_iff_ne.mpr c5
        have c5b1 : (a0_2 != a1_2) = true := bne_iff_ne.mpr c5
        obtain rfl := Option.some.inj H
        go_enter Tryd.func82, Tryd.ntmps82
        go_wp2_with (first | ((with_reducible refine gate_dst (N := 2) rfl ?_); refine box_event ?hg (N := 2) ?hd (cs := #[.int .i64 a0_0, .string a0_1, .int .i64 a0_2, .int .i64 a0_3, .slice A0_4 l0_4.length c0_4]) (t := 36) ?hr ?_; (case hd => rfl); (case hg => rfl); (case hr => first | (go_simp; done) | (go_simp; rfl)); intro gb110 hg w18 hbox hb; have n0_ := Aside0.mk (below_step (by repeat (first | (with_reducible first | exact HB.out | apply below_alloc | apply pw_below_drewN | apply below_drew1) | exact HB.out)) hb); have n1_ := Aside0.mk (hbox); have n2_ := Aside0.mk ((by rw [hg]; exact (below_size (by repeat (first | (with_reducible first | exact HB.out | apply below_alloc | apply pw_below_drewN | apply below_drew1) | exact HB.out))) : w.heap.size ≤ gb110)); have n3_ := Aside0.mk ((by rw [hg]; exact (below_size (by repeat (first | (with_reducible first | exact HB.out | apply below_alloc | apply pw_below_drewN | apply below_drew1) | exact HB.out))) : w.heap.size ≤ gb110)); clear HB; have HB := n0_; have BK110 := n1_; have GW110 := n2_; have GE110 := n3_; clear n0_ n1_ n2_ n3_; clear hb hbox hg) | ((with_reducible refine gate_dst (N := 3) rfl ?_); refine box_event ?hg (N := 3) ?hd (cs := #[.int .i64 a1_0, .string a1_1, .int .i64 a1_2, .int .i64 a1_3, .slice A1_4 l1_4.length c1_4]) (t := 36) ?hr ?_; (case hd => rfl); (case hg => rfl); (case hr => first | (go_simp; done) | (go_simp; rfl)); intro gb111 hg w19 hbox hb; have n0_ := Aside0.mk (blk_below (g := gb110) (o := .cells #[.int .i64 a0_0, .string a0_1, .int .i64 a0_2, .int .i64 a0_3, .slice A0_4 l0_4.length c0_4] 36 (0, 0)) (by (with_reducible repeat (first | refine blk_drewN ?_ _ | refine blk_drew ?_ | refine blk_alloc ?_ _)); exact BK110.out) hb); have n1_ := Aside0.mk (below_step (by repeat (first | (with_reducible first | exact HB.out | apply below_alloc | apply pw_below_drewN | apply below_drew1 | refine below_set ?_ GE110.out) | exact HB.out)) hb); have n2_ := Aside0.mk (hbox); have n3_ := Aside0.mk ((by rw [hg]; exact (below_size (by repeat (first | (with_reducible first | exact HB.out | apply below_alloc | apply pw_below_drewN | apply below_drew1 | refine below_set ?_ GE110.out) | exact HB.out))) : w.heap.size ≤ gb111)); have n4_ := Aside0.mk ((by rw [hg]; exact (below_size (by repeat (first | (with_reducible first | exact HB.out | apply below_alloc | apply pw_below_drewN | apply below_drew1 | refine below_set ?_ GE110.out) | exact HB.out))) : w.heap.size ≤ gb111)); have n5_ := Aside0.mk ((by rw [hg]; exact Nat.ne_of_lt (blk_lt (g := gb110) (o := .cells #[.int .i64 a0_0, .string a0_1, .int .i64 a0_2, .int .i64 a0_3, .slice A0_4 l0_4.length c0_4] 36 (0, 0)) (by (with_reducible repeat (first | refine blk_drewN ?_ _ | refine blk_drew ?_ | refine blk_alloc ?_ _)); exact BK110.out)) : gb110 ≠ gb111)); have n6_ := Aside0.mk ((by rw [hg]; exact Nat.ne_of_gt (blk_lt (g := gb110) (o := .cells #[.int .i64 a0_0, .string a0_1, .int .i64 a0_2, .int .i64 a0_3, .slice A0_4 l0_4.length c0_4] 36 (0, 0)) (by (with_reducible repeat (first | refine blk_drewN ?_ _ | refine blk_drew ?_ | refine blk_alloc ?_ _)); exact BK110.out)) : gb111 ≠ gb110)); clear BK110; clear HB; have BK110 := n0_; have HB := n1_; have BK111 := n2_; have GW111 := n3_; have GE111 := n4_; have NB110_111 := n5_; have NB111_110 := n6_; clear n0_ n1_ n2_ n3_ n4_ n5_ n6_; clear hb hbox hg; have hnb20 := NB110_111.out; have hnc20 := NB111_110.out; have hcz21_0 : w19.cell? ⟨gb110, 0, none⟩ = some (.int .i64 a0_0) := (blk_cell BK110.out 0).trans rfl; have hcz21_1 : w19.cell? ⟨gb110, 1, none⟩ = some (.string a0_1) := (blk_cell BK110.out 1).trans rfl; have hcz21_2 : w19.cell? ⟨gb110, 2, none⟩ = some (.int .i64 a0_2) := (blk_cell BK110.out 2).trans rfl; have hcz21_3 : w19.cell? ⟨gb110, 3, none⟩ = some (.int .i64 a0_3) := (blk_cell BK110.out 3).trans rfl; have hcz21_4 : w19.cell? ⟨gb110, 4, none⟩ = some (.slice A0_4 l0_4.length c0_4) := (blk_cell BK110.out 4).trans rfl; have hfz21_0 := blk_frozen BK110.out 0; have hfz21_1 := blk_frozen BK110.out 1; have hfz21_2 := blk_frozen BK110.out 2; have hfz21_3 := blk_frozen BK110.out 3; have hfz21_4 := blk_frozen BK110.out 4; have hcz22_0 : w19.cell? ⟨gb111, 0, none⟩ = some (.int .i64 a1_0) := (blk_cell BK111.out 0).trans rfl; have hcz22_1 : w19.cell? ⟨gb111, 1, none⟩ = some (.string a1_1) := (blk_cell BK111.out 1).trans rfl; have hcz22_2 : w19.cell? ⟨gb111, 2, none⟩ = some (.int .i64 a1_2) := (blk_cell BK111.out 2).trans rfl; have hcz22_3 : w19.cell? ⟨gb111, 3, none⟩ = some (.int .i64 a1_3) := (blk_cell BK111.out 3).trans rfl; have hcz22_4 : w19.cell? ⟨gb111, 4, none⟩ = some (.slice A1_4 l1_4.length c1_4) := (blk_cell BK111.out 4).trans rfl; have hfz22_0 := blk_frozen BK111.out 0; have hfz22_1 := blk_frozen BK111.out 1; have hfz22_2 := blk_frozen BK111.out 2; have hfz22_3 := blk_frozen BK111.out 3; have hfz22_4 := blk_frozen BK111.out 4))
        go_ret
        exact ⟨by first | rfl | (simp [errW_none, errW_some] <;> rfl) | (simp [*, errW_none, errW_some] <;> rfl), by repeat (first | (with_reducible first | exact HB.out | apply below_alloc | apply pw_below_drewN | apply below_drew1 | refine below_set ?_ GE110.out | refine below_set ?_ GE111.out) | exact HB.out)⟩
    · rw [if_neg c4] at H
      have c4b0 : (a0_1.toList == a1_1.toList) = false := beq_eq_false_iff_ne.mpr c4
      have c4b1 : (a0_1.toList != a1_1.toList) = true := bne_iff_ne.mpr c4
      obtain rfl := Option.some.inj H
      go_enter Tryd.func82, Tryd.ntmps82
      go_wp2_with (first | ((with_reducible refine gate_dst (N := 2) rfl ?_); refine box_event ?hg (N := 2) ?hd (cs := #[.int .i64 a0_0, .string a0_1, .int .i64 a0_2, .int .i64 a0_3, .slice A0_4 l0_4.length c0_4]) (t := 36) ?hr ?_; (case hd => rfl); (case hg => rfl); (case hr => first | (go_simp; done) | (go_simp; rfl)); intro gb110 hg w23 hbox hb; have n0_ := Aside0.mk (below_step (by repeat (first | (with_reducible first | exact HB.out | apply below_alloc | apply pw_below_drewN | apply below_drew1) | exact HB.out)) hb); have n1_ := Aside0.mk (hbox); have n2_ := Aside0.mk ((by rw [hg]; exact (below_size (by repeat (first | (with_reducible first | exact HB.out | apply below_alloc | apply pw_below_drewN | apply below_drew1) | exact HB.out))) : w.heap.size ≤ gb110)); have n3_ := Aside0.mk ((by rw [hg]; exact (below_size (by repeat (first | (with_reducible first | exact HB.out | apply below_alloc | apply pw_below_drewN | apply below_drew1) | exact HB.out))) : w.heap.size ≤ gb110)); clear HB; have HB := n0_; have BK110 := n1_; have GW110 := n2_; have GE110 := n3_; clear n0_ n1_ n2_ n3_; clear hb hbox hg) | ((with_reducible refine gate_dst (N := 3) rfl ?_); refine box_event ?hg (N := 3) ?hd (cs := #[.int .i64 a1_0, .string a1_1, .int .i64 a1_2, .int .i64 a1_3, .slice A1_4 l1_4.length c1_4]) (t := 36) ?hr ?_; (case hd => rfl); (case hg => rfl); (case hr => first | (go_simp; done) | (go_simp; rfl)); intro gb111 hg w24 hbox hb; have n0_ := Aside0.mk (blk_below (g := gb110) (o := .cells #[.int .i64 a0_0, .string a0_1, .int .i64 a0_2, .int .i64 a0_3, .slice A0_4 l0_4.length c0_4] 36 (0, 0)) (by (with_reducible repeat (first | refine blk_drewN ?_ _ | refine blk_drew ?_ | refine blk_alloc ?_ _)); exact BK110.out) hb); have n1_ := Aside0.mk (below_step (by repeat (first | (with_reducible first | exact HB.out | apply below_alloc | apply pw_below_drewN | apply below_drew1 | refine below_set ?_ GE110.out) | exact HB.out)) hb); have n2_ := Aside0.mk (hbox); have n3_ := Aside0.mk ((by rw [hg]; exact (below_size (by repeat (first | (with_reducible first | exact HB.out | apply below_alloc | apply pw_below_drewN | apply below_drew1 | refine below_set ?_ GE110.out) | exact HB.out))) : w.heap.size ≤ gb111)); have n4_ := Aside0.mk ((by rw [hg]; exact (below_size (by repeat (first | (with_reducible first | exact HB.out | apply below_alloc | apply pw_below_drewN | apply below_drew1 | refine below_set ?_ GE110.out) | exact HB.out))) : w.heap.size ≤ gb111)); have n5_ := Aside0.mk ((by rw [hg]; exact Nat.ne_of_lt (blk_lt (g := gb110) (o := .cells #[.int .i64 a0_0, .string a0_1, .int .i64 a0_2, .int .i64 a0_3, .slice A0_4 l0_4.length c0_4] 36 (0, 0)) (by (with_reducible repeat (first | refine blk_drewN ?_ _ | refine blk_drew ?_ | refine blk_alloc ?_ _)); exact BK110.out)) : gb110 ≠ gb111)); have n6_ := Aside0.mk ((by rw [hg]; exact Nat.ne_of_gt (blk_lt (g := gb110) (o := .cells #[.int .i64 a0_0, .string a0_1, .int .i64 a0_2, .int .i64 a0_3, .slice A0_4 l0_4.length c0_4] 36 (0, 0)) (by (with_reducible repeat (first | refine blk_drewN ?_ _ | refine blk_drew ?_ | refine blk_alloc ?_ _)); exact BK110.out)) : gb111 ≠ gb110)); clear BK110; clear HB; have BK110 := n0_; have HB := n1_; have BK111 := n2_; have GW111 := n3_; have GE111 := n4_; have NB110_111 := n5_; have NB111_110 := n6_; clear n0_ n1_ n2_ n3_ n4_ n5_ n6_; clear hb hbox hg; have hnb25 := NB110_111.out; have hnc25 := NB111_110.out; have hcz26_0 : w24.cell? ⟨gb110, 0, none⟩ = some (.int .i64 a0_0) := (blk_cell BK110.out 0).trans rfl; have hcz26_1 : w24.cell? ⟨gb110, 1, none⟩ = some (.string a0_1) := (blk_cell BK110.out 1).trans rfl; have hcz26_2 : w24.cell? ⟨gb110, 2, none⟩ = some (.int .i64 a0_2) := (blk_cell BK110.out 2).trans rfl; have hcz26_3 : w24.cell? ⟨gb110, 3, none⟩ = some (.int .i64 a0_3) := (blk_cell BK110.out 3).trans rfl; have hcz26_4 : w24.cell? ⟨gb110, 4, none⟩ = some (.slice A0_4 l0_4.length c0_4) := (blk_cell BK110.out 4).trans rfl; have hfz26_0 := blk_frozen BK110.out 0; have hfz26_1 := blk_frozen BK110.out 1; have hfz26_2 := blk_frozen BK110.out 2; have hfz26_3 := blk_frozen BK110.out 3; have hfz26_4 := blk_frozen BK110.out 4; have hcz27_0 : w24.cell? ⟨gb111, 0, none⟩ = some (.int .i64 a1_0) := (blk_cell BK111.out 0).trans rfl; have hcz27_1 : w24.cell? ⟨gb111, 1, none⟩ = some (.string a1_1) := (blk_cell BK111.out 1).trans rfl; have hcz27_2 : w24.cell? ⟨gb111, 2, none⟩ = some (.int .i64 a1_2) := (blk_cell BK111.out 2).trans rfl; have hcz27_3 : w24.cell? ⟨gb111, 3, none⟩ = some (.int .i64 a1_3) := (blk_cell BK111.out 3).trans rfl; have hcz27_4 : w24.cell? ⟨gb111, 4, none⟩ = some (.slice A1_4 l1_4.length c1_4) := (blk_cell BK111.out 4).trans rfl; have hfz27_0 := blk_frozen BK111.out 0; have hfz27_1 := blk_frozen BK111.out 1; have hfz27_2 := blk_frozen BK111.out 2; have hfz27_3 := blk_frozen BK111.out 3; have hfz27_4 := blk_frozen BK111.out 4))
      go_ret
      exact ⟨by first | rfl | (simp [errW_none, errW_some] <;> rfl) | (simp [*, errW_none, errW_some] <;> rfl), by repeat (first | (with_reducible first | exact HB.out | apply below_alloc | apply pw_below_drewN | apply below_drew1 | refine below_set ?_ GE110.out | refine below_set ?_ GE111.out) | exact HB.out)⟩
  · rw [if_neg c3] at H
    have c3b0 : (a0_0 == a1_0) = false := beq_eq_false_iff_ne.mpr c3
    have c3b1 : (a0_0 != a1_0) = true := bne_iff_ne.mpr c3
    obtain rfl := Option.some.inj H
    go_enter Tryd.func82, Tryd.ntmps82
    go_wp2_with (first | ((with_reducible refine gate_dst (N := 2) rfl ?_); refine box_event ?hg (N := 2) ?hd (cs := #[.int .i64 a0_0, .string a0_1, .int .i64 a0_2, .int .i64 a0_3, .slice A0_4 l0_4.length c0_4]) (t := 36) ?hr ?_; (case hd => rfl); (case hg => rfl); (case hr => first | (go_simp; done) | (go_simp; rfl)); intro gb110 hg w28 hbox hb; have n0_ := Aside0.mk (below_step (by repeat (first | (with_reducible first | exact HB.out | apply below_alloc | apply pw_below_drewN | apply below_drew1) | exact HB.out)) hb); have n1_ := Aside0.mk (hbox); have n2_ := Aside0.mk ((by rw [hg]; exact (below_size (by repeat (first | (with_reducible first | exact HB.out | apply below_alloc | apply pw_below_drewN | apply below_drew1) | exact HB.out))) : w.heap.size ≤ gb110)); have n3_ := Aside0.mk ((by rw [hg]; exact (below_size (by repeat (first | (with_reducible first | exact HB.out | apply below_alloc | apply pw_below_drewN | apply below_drew1) | exact HB.out))) : w.heap.size ≤ gb110)); clear HB; have HB := n0_; have BK110 := n1_; have GW110 := n2_; have GE110 := n3_; clear n0_ n1_ n2_ n3_; clear hb hbox hg) | ((with_reducible refine gate_dst (N := 3) rfl ?_); refine box_event ?hg (N := 3) ?hd (cs := #[.int .i64 a1_0, .string a1_1, .int .i64 a1_2, .int .i64 a1_3, .slice A1_4 l1_4.length c1_4]) (t := 36) ?hr ?_; (case hd => rfl); (case hg => rfl); (case hr => first | (go_simp; done) | (go_simp; rfl)); intro gb111 hg w29 hbox hb; have n0_ := Aside0.mk (blk_below (g := gb110) (o := .cells #[.int .i64 a0_0, .string a0_1, .int .i64 a0_2, .int .i64 a0_3, .slice A0_4 l0_4.length c0_4] 36 (0, 0)) (by (with_reducible repeat (first | refine blk_drewN ?_ _ | refine blk_drew ?_ | refine blk_alloc ?_ _)); exact BK110.out) hb); have n1_ := Aside0.mk (below_step (by repeat (first | (with_reducible first | exact HB.out | apply below_alloc | apply pw_below_drewN | apply below_drew1 | refine below_set ?_ GE110.out) | exact HB.out)) hb); have n2_ := Aside0.mk (hbox); have n3_ := Aside0.mk ((by rw [hg]; exact (below_size (by repeat (first | (with_reducible first | exact HB.out | apply below_alloc | apply pw_below_drewN | apply below_drew1 | refine below_set ?_ GE110.out) | exact HB.out))) : w.heap.size ≤ gb111)); have n4_ := Aside0.mk ((by rw [hg]; exact (below_size (by repeat (first | (with_reducible first | exact HB.out | apply below_alloc | apply pw_below_drewN | apply below_drew1 | refine below_set ?_ GE110.out) | exact HB.out))) : w.heap.size ≤ gb111)); have n5_ := Aside0.mk ((by rw [hg]; exact Nat.ne_of_lt (blk_lt (g := gb110) (o := .cells #[.int .i64 a0_0, .string a0_1, .int .i64 a0_2, .int .i64 a0_3, .slice A0_4 l0_4.length c0_4] 36 (0, 0)) (by (with_reducible repeat (first | refine blk_drewN ?_ _ | refine blk_drew ?_ | refine blk_alloc ?_ _)); exact BK110.out)) : gb110 ≠ gb111)); have n6_ := Aside0.mk ((by rw [hg]; exact Nat.ne_of_gt (blk_lt (g := gb110) (o := .cells #[.int .i64 a0_0, .string a0_1, .int .i64 a0_2, .int .i64 a0_3, .slice A0_4 l0_4.length c0_4] 36 (0, 0)) (by (with_reducible repeat (first | refine blk_drewN ?_ _ | refine blk_drew ?_ | refine blk_alloc ?_ _)); exact BK110.out)) : gb111 ≠ gb110)); clear BK110; clear HB; have BK110 := n0_; have HB := n1_; have BK111 := n2_; have GW111 := n3_; have GE111 := n4_; have NB110_111 := n5_; have NB111_110 := n6_; clear n0_ n1_ n2_ n3_ n4_ n5_ n6_; clear hb hbox hg; have hnb30 := NB110_111.out; have hnc30 := NB111_110.out; have hcz31_0 : w29.cell? ⟨gb110, 0, none⟩ = some (.int .i64 a0_0) := (blk_cell BK110.out 0).trans rfl; have hcz31_1 : w29.cell? ⟨gb110, 1, none⟩ = some (.string a0_1) := (blk_cell BK110.out 1).trans rfl; have hcz31_2 : w29.cell? ⟨gb110, 2, none⟩ = some (.int .i64 a0_2) := (blk_cell BK110.out 2).trans rfl; have hcz31_3 : w29.cell? ⟨gb110, 3, none⟩ = some (.int .i64 a0_3) := (blk_cell BK110.out 3).trans rfl; have hcz31_4 : w29.cell? ⟨gb110, 4, none⟩ = some (.slice A0_4 l0_4.length c0_4) := (blk_cell BK110.out 4).trans rfl; have hfz31_0 := blk_frozen BK110.out 0; have hfz31_1 := blk_frozen BK110.out 1; have hfz31_2 := blk_frozen BK110.out 2; have hfz31_3 := blk_frozen BK110.out 3; have hfz31_4 := blk_frozen BK110.out 4; have hcz32_0 : w29.cell? ⟨gb111, 0, none⟩ = some (.int .i64 a1_0) := (blk_cell BK111.out 0).trans rfl; have hcz32_1 : w29.cell? ⟨gb111, 1, none⟩ = some (.string a1_1) := (blk_cell BK111.out 1).trans rfl; have hcz32_2 : w29.cell? ⟨gb111, 2, none⟩ = some (.int .i64 a1_2) := (blk_cell BK111.out 2).trans rfl; have hcz32_3 : w29.cell? ⟨gb111, 3, none⟩ = some (.int .i64 a1_3) := (blk_cell BK111.out 3).trans rfl; have hcz32_4 : w29.cell? ⟨gb111, 4, none⟩ = some (.slice A1_4 l1_4.length c1_4) := (blk_cell BK111.out 4).trans rfl; have hfz32_0 := blk_frozen BK111.out 0; have hfz32_1 := blk_frozen BK111.out 1; have hfz32_2 := blk_frozen BK111.out 2; have hfz32_3 := blk_frozen BK111.out 3; have hfz32_4 := blk_frozen BK111.out 4))
    go_ret
    exact ⟨by first | rfl | (simp [errW_none, errW_some] <;> rfl) | (simp [*, errW_none, errW_some] <;> rfl), by repeat (first | (with_reducible first | exact HB.out | apply below_alloc | apply pw_below_drewN | apply below_drew1 | refine below_set ?_ GE110.out | refine below_set ?_ GE111.out) | exact HB.out)⟩
def entry_Same.f (k : Nat) (a0_0 : Int) (a0_1 : Int) (a0_2 : Int) (a0_3 : ByteArray) (a0_4 : Int) (a0_5 : Int) (l0_6 : List (S118)) (a1_0 : Int) (a1_1 : Int) (a1_2 : Int) (a1_3 : ByteArray) (a1_4 : Int) (a1_5 : Int) (l1_6 : List (S118)) : Option (Bool) := if a0_0 = a1_0 then (if a0_1 = a1_1 then ((item_Same.f k a0_2 a0_3 a0_4 a0_5 l0_6 a1_2 a1_3 a1_4 a1_5 l1_6).bind fun t115 => (some t115)) else (some false)) else (some false)
set_option maxHeartbeats 8000000 in
set_option maxRecDepth 100000 in
theorem entry_Same.calls (k : Nat) (a0_0 : Int) (a0_1 : Int) (a0_2 : Int) (a0_3 : ByteArray) (a0_4 : Int) (a0_5 : Int) (A0_6 : Option Addr) (c0_6 : Nat) (l0_6 : List (S118)) (a1_0 : Int) (a1_1 : Int) (a1_2 : Int) (a1_3 : ByteArray) (a1_4 : Int) (a1_5 : Int) (A1_6 : Option Addr) (c1_6 : Nat) (l1_6 : List (S118)) (r : Bool) (w : World) (hr0_6 : Kd.C k118 w A0_6 l0_6.length l0_6) (hc0_6 : l0_6.length ≤ c0_6) (hr1_6 : Kd.C k118 w A1_6 l1_6.length l1_6) (hc1_6 : l1_6.length ≤ c1_6) (h : entry_Same.f k a0_0 a0_1 a0_2 a0_3 a0_4 a0_5 l0_6 a1_0 a1_1 a1_2 a1_3 a1_4 a1_5 l1_6 = some r) :
    Calls Tryd.prog 42 #[.agg #[.int .i64 a0_0, .int .i64 a0_1, .int .i64 a0_2, .string a0_3, .int .i64 a0_4, .int .i64 a0_5, .slice A0_6 l0_6.length c0_6], .agg #[.int .i64 a1_0, .int .i64 a1_1, .int .i64 a1_2, .string a1_3, .int .i64 a1_4, .int .i64 a1_5, .slice A1_6 l1_6.length c1_6]] w fun e w' => e = .returned (.bool r) ∧ Below w.heap.size w w' := by
  have hu38 := Tryd.underlying38
  have hu36 := Tryd.underlying36
  have HR0_6 := Aside0.mk hr0_6
  have HC0_6 := Aside0.mk hc0_6
  clear hr0_6 hc0_6
  have HR1_6 := Aside0.mk hr1_6
  have HC1_6 := Aside0.mk hc1_6
  clear hr1_6 hc1_6
  have HB := Aside0.mk (Below.refl w.heap.size w)
  have H : (if a0_0 = a1_0 then (if a0_1 = a1_1 then ((item_Same.f k a0_2 a0_3 a0_4 a0_5 l0_6 a1_2 a1_3 a1_4 a1_5 l1_6).bind fun t115 => (some t115)) else (some false)) else (some false)) = some r := h
  clear h
  by_cases c3 : a0_0 = a1_0
  · rw [if_pos c3] at H
    have c3b0 : (a0_0 == a1_0) = true := beq_iff_eq.mpr c3
    have c3b1 : (a0_0 != a1_0) = false := bne_eq_false_iff_eq.mpr c3
    clear c3
    by_cases c4 : a0_1 = a1_1
    · rw [if_pos c4] at H
      have c4b0 : (a0_1 == a1_1) = true := beq_iff_eq.mpr c4
      have c4b1 : (a0_1 != a1_1) = false := bne_eq_false_iff_eq.mpr c4
      clear c4
      replace H := Option.bind_eq_some_iff.mp H
      obtain ⟨t115, A50, H⟩ := H
      replace H : (some t115) = some r := H
      have A5 := Aside0.mk A50
      clear A50
      obtain rfl := Option.some.inj H
      go_enter Tryd.func42, Tryd.ntmps42
      go_wp2_with (first | ((with_reducible refine gate_dst (N := 2) rfl ?_); refine box_event ?hg (N := 2) ?hd (cs := #[.int .i64 a0_0, .int .i64 a0_1, .int .i64 a0_2, .string a0_3, .int .i64 a0_4, .int .i64 a0_5, .slice A0_6 l0_6.length c0_6]) (t := 38) ?hr ?_; (case hd => rfl); (case hg => rfl); (case hr => first | (go_simp; done) | (go_simp; rfl)); intro gb113 hg w6 hbox hb; have n0_ := Aside0.mk (below_step (by repeat (first | (with_reducible first | exact HB.out | apply below_alloc | apply pw_below_drewN | apply below_drew1) | exact HB.out)) hb); have n1_ := Aside0.mk (hbox); have n2_ := Aside0.mk ((by rw [hg]; exact (below_size (by repeat (first | (with_reducible first | exact HB.out | apply below_alloc | apply pw_below_drewN | apply below_drew1) | exact HB.out))) : w.heap.size ≤ gb113)); have n3_ := Aside0.mk ((by rw [hg]; exact (below_size (by repeat (first | (with_reducible first | exact HB.out | apply below_alloc | apply pw_below_drewN | apply below_drew1) | exact HB.out))) : w.heap.size ≤ gb113)); clear HB; have HB := n0_; have BK113 := n1_; have GW113 := n2_; have GE113 := n3_; clear n0_ n1_ n2_ n3_; clear hb hbox hg) | ((with_reducible refine gate_dst (N := 3) rfl ?_); refine box_event ?hg (N := 3) ?hd (cs := #[.int .i64 a1_0, .int .i64 a1_1, .int .i64 a1_2, .string a1_3, .int .i64 a1_4, .int .i64 a1_5, .slice A1_6 l1_6.length c1_6]) (t := 38) ?hr ?_; (case hd => rfl); (case hg => rfl); (case hr => first | (go_simp; done) | (go_simp; rfl)); intro gb114 hg w7 hbox hb; have n0_ := Aside0.mk (blk_below (g := gb113) (o := .cells #[.int .i64 a0_0, .int .i64 a0_1, .int .i64 a0_2, .string a0_3, .int .i64 a0_4, .int .i64 a0_5, .slice A0_6 l0_6.length c0_6] 38 (0, 0)) (by (with_reducible repeat (first | refine blk_drewN ?_ _ | refine blk_drew ?_ | refine blk_alloc ?_ _)); exact BK113.out) hb); have n1_ := Aside0.mk (below_step (by repeat (first | (with_reducible first | exact HB.out | apply below_alloc | apply pw_below_drewN | apply below_drew1 | refine below_set ?_ GE113.out) | exact HB.out)) hb); have n2_ := Aside0.mk (hbox); have n3_ := Aside0.mk ((by rw [hg]; exact (below_size (by repeat (first | (with_reducible first | exact HB.out | apply below_alloc | apply pw_below_drewN | apply below_drew1 | refine below_set ?_ GE113.out) | exact HB.out))) : w.heap.size ≤ gb114)); have n4_ := Aside0.mk ((by rw [hg]; exact (below_size (by repeat (first | (with_reducible first | exact HB.out | apply below_alloc | apply pw_below_drewN | apply below_drew1 | refine below_set ?_ GE113.out) | exact HB.out))) : w.heap.size ≤ gb114)); have n5_ := Aside0.mk ((by rw [hg]; exact Nat.ne_of_lt (blk_lt (g := gb113) (o := .cells #[.int .i64 a0_0, .int .i64 a0_1, .int .i64 a0_2, .string a0_3, .int .i64 a0_4, .int .i64 a0_5, .slice A0_6 l0_6.length c0_6] 38 (0, 0)) (by (with_reducible repeat (first | refine blk_drewN ?_ _ | refine blk_drew ?_ | refine blk_alloc ?_ _)); exact BK113.out)) : gb113 ≠ gb114)); have n6_ := Aside0.mk ((by rw [hg]; exact Nat.ne_of_gt (blk_lt (g := gb113) (o := .cells #[.int .i64 a0_0, .int .i64 a0_1, .int .i64 a0_2, .string a0_3, .int .i64 a0_4, .int .i64 a0_5, .slice A0_6 l0_6.length c0_6] 38 (0, 0)) (by (with_reducible repeat (first | refine blk_drewN ?_ _ | refine blk_drew ?_ | refine blk_alloc ?_ _)); exact BK113.out)) : gb114 ≠ gb113)); clear BK113; clear HB; have BK113 := n0_; have HB := n1_; have BK114 := n2_; have GW114 := n3_; have GE114 := n4_; have NB113_114 := n5_; have NB114_113 := n6_; clear n0_ n1_ n2_ n3_ n4_ n5_ n6_; clear hb hbox hg; have hnb8 := NB113_114.out; have hnc8 := NB114_113.out; have hcz9_0 : w7.cell? ⟨gb113, 0, none⟩ = some (.int .i64 a0_0) := (blk_cell BK113.out 0).trans rfl; have hcz9_1 : w7.cell? ⟨gb113, 1, none⟩ = some (.int .i64 a0_1) := (blk_cell BK113.out 1).trans rfl; have hcz9_2 : w7.cell? ⟨gb113, 2, none⟩ = some (.int .i64 a0_2) := (blk_cell BK113.out 2).trans rfl; have hcz9_3 : w7.cell? ⟨gb113, 3, none⟩ = some (.string a0_3) := (blk_cell BK113.out 3).trans rfl; have hcz9_4 : w7.cell? ⟨gb113, 4, none⟩ = some (.int .i64 a0_4) := (blk_cell BK113.out 4).trans rfl; have hcz9_5 : w7.cell? ⟨gb113, 5, none⟩ = some (.int .i64 a0_5) := (blk_cell BK113.out 5).trans rfl; have hcz9_6 : w7.cell? ⟨gb113, 6, none⟩ = some (.slice A0_6 l0_6.length c0_6) := (blk_cell BK113.out 6).trans rfl; have hfz9_0 := blk_frozen BK113.out 0; have hfz9_1 := blk_frozen BK113.out 1; have hfz9_2 := blk_frozen BK113.out 2; have hfz9_3 := blk_frozen BK113.out 3; have hfz9_4 := blk_frozen BK113.out 4; have hfz9_5 := blk_frozen BK113.out 5; have hfz9_6 := blk_frozen BK113.out 6; have hcz10_0 : w7.cell? ⟨gb114, 0, none⟩ = some (.int .i64 a1_0) := (blk_cell BK114.out 0).trans rfl; have hcz10_1 : w7.cell? ⟨gb114, 1, none⟩ = some (.int .i64 a1_1) := (blk_cell BK114.out 1).trans rfl; have hcz10_2 : w7.cell? ⟨gb114, 2, none⟩ = some (.int .i64 a1_2) := (blk_cell BK114.out 2).trans rfl; have hcz10_3 : w7.cell? ⟨gb114, 3, none⟩ = some (.string a1_3) := (blk_cell BK114.out 3).trans rfl; have hcz10_4 : w7.cell? ⟨gb114, 4, none⟩ = some (.int .i64 a1_4) := (blk_cell BK114.out 4).trans rfl; have hcz10_5 : w7.cell? ⟨gb114, 5, none⟩ = some (.int .i64 a1_5) := (blk_cell BK114.out 5).trans rfl; have hcz10_6 : w7.cell? ⟨gb114, 6, none⟩ = some (.slice A1_6 l1_6.length c1_6) := (blk_cell BK114.out 6).trans rfl; have hfz10_0 := blk_frozen BK114.out 0; have hfz10_1 := blk_frozen BK114.out 1; have hfz10_2 := blk_frozen BK114.out 2; have hfz10_3 := blk_frozen BK114.out 3; have hfz10_4 := blk_frozen BK114.out 4; have hfz10_5 := blk_frozen BK114.out 5; have hfz10_6 := blk_frozen BK114.out 6) | (go_at_call 82; (with_reducible refine (item_Same.calls k a0_2 a0_3 a0_4 a0_5 _ _ l0_6 a1_2 a1_3 a1_4 a1_5 _ _ l1_6 t115 _ ?side1 ?side2 ?side3 ?side4 A5.out).mono ?_); (case side1 => repeat (first | exact (Kd.C_below HR0_6.out HB.out) | (with_reducible refine Kd.C_alloc ?_ _) | (with_reducible refine Kd.C_drewN ?_ _) | (with_reducible refine Kd.C_drew ?_))); (case side2 => exact HC0_6.out); (case side3 => repeat (first | exact (Kd.C_below HR1_6.out HB.out) | (with_reducible refine Kd.C_alloc ?_ _) | (with_reducible refine Kd.C_drewN ?_ _) | (with_reducible refine Kd.C_drew ?_))); (case side4 => exact HC1_6.out); rintro e w11 ⟨rfl, hb⟩; have n0_ := Aside0.mk (blk_below (g := gb113) (o := .cells #[.int .i64 a0_0, .int .i64 a0_1, .int .i64 a0_2, .string a0_3, .int .i64 a0_4, .int .i64 a0_5, .slice A0_6 l0_6.length c0_6] 38 (0, 0)) (by (with_reducible repeat (first | refine blk_drewN ?_ _ | refine blk_drew ?_ | refine blk_alloc ?_ _)); exact BK113.out) hb); have n1_ := Aside0.mk (blk_below (g := gb114) (o := .cells #[.int .i64 a1_0, .int .i64 a1_1, .int .i64 a1_2, .string a1_3, .int .i64 a1_4, .int .i64 a1_5, .slice A1_6 l1_6.length c1_6] 38 (0, 0)) (by (with_reducible repeat (first | refine blk_drewN ?_ _ | refine blk_drew ?_ | refine blk_alloc ?_ _)); exact BK114.out) hb); have n2_ := Aside0.mk (below_step (by repeat (first | (with_reducible first | exact HB.out | apply below_alloc | apply pw_below_drewN | apply below_drew1 | refine below_set ?_ GE113.out | refine below_set ?_ GE114.out) | exact HB.out)) hb); clear BK113; clear BK114; clear HB; have BK113 := n0_; have BK114 := n1_; have HB := n2_; clear n0_ n1_ n2_; (try clear hb); (try clear hb2); (try clear hk); (try clear hi)))
      go_ret
      exact ⟨by first | rfl | (simp [errW_none, errW_some] <;> rfl) | (simp [*, errW_none, errW_some] <;> rfl), by repeat (first | (with_reducible first | exact HB.out | apply below_alloc | apply pw_below_drewN | apply below_drew1 | refine below_set ?_ GE113.out | refine below_set ?_ GE114.out) | exact HB.out)⟩
    · rw [if_neg c4] at H
      have c4b0 : (a0_1 == a1_1) = false := beq_eq_false_iff_ne.mpr c4
      have c4b1 : (a0_1 != a1_1) = true := bne_iff_ne.mpr c4
      obtain rfl := Option.some.inj H
      go_enter Tryd.func42, Tryd.ntmps42
      go_wp2_with (first | ((with_reducible refine gate_dst (N := 2) rfl ?_); refine box_event ?hg (N := 2) ?hd (cs := #[.int .i64 a0_0, .int .i64 a0_1, .int .i64 a0_2, .string a0_3, .int .i64 a0_4, .int .i64 a0_5, .slice A0_6 l0_6.length c0_6]) (t := 38) ?hr ?_; (case hd => rfl); (case hg => rfl); (case hr => first | (go_simp; done) | (go_simp; rfl)); intro gb113 hg w12 hbox hb; have n0_ := Aside0.mk (below_step (by repeat (first | (with_reducible first | exact HB.out | apply below_alloc | apply pw_below_drewN | apply below_drew1) | exact HB.out)) hb); have n1_ := Aside0.mk (hbox); have n2_ := Aside0.mk ((by rw [hg]; exact (below_size (by repeat (first | (with_reducible first | exact HB.out | apply below_alloc | apply pw_below_drewN | apply below_drew1) | exact HB.out))) : w.heap.size ≤ gb113)); have n3_ := Aside0.mk ((by rw [hg]; exact (below_size (by repeat (first | (with_reducible first | exact HB.out | apply below_alloc | apply pw_below_drewN | apply below_drew1) | exact HB.out))) : w.heap.size ≤ gb113)); clear HB; have HB := n0_; have BK113 := n1_; have GW113 := n2_; have GE113 := n3_; clear n0_ n1_ n2_ n3_; clear hb hbox hg) | ((with_reducible refine gate_dst (N := 3) rfl ?_); refine box_event ?hg (N := 3) ?hd (cs := #[.int .i64 a1_0, .int .i64 a1_1, .int .i64 a1_2, .string a1_3, .int .i64 a1_4, .int .i64 a1_5, .slice A1_6 l1_6.length c1_6]) (t := 38) ?hr ?_; (case hd => rfl); (case hg => rfl); (case hr => first | (go_simp; done) | (go_simp; rfl)); intro gb114 hg w13 hbox hb; have n0_ := Aside0.mk (blk_below (g := gb113) (o := .cells #[.int .i64 a0_0, .int .i64 a0_1, .int .i64 a0_2, .string a0_3, .int .i64 a0_4, .int .i64 a0_5, .slice A0_6 l0_6.length c0_6] 38 (0, 0)) (by (with_reducible repeat (first | refine blk_drewN ?_ _ | refine blk_drew ?_ | refine blk_alloc ?_ _)); exact BK113.out) hb); have n1_ := Aside0.mk (below_step (by repeat (first | (with_reducible first | exact HB.out | apply below_alloc | apply pw_below_drewN | apply below_drew1 | refine below_set ?_ GE113.out) | exact HB.out)) hb); have n2_ := Aside0.mk (hbox); have n3_ := Aside0.mk ((by rw [hg]; exact (below_size (by repeat (first | (with_reducible first | exact HB.out | apply below_alloc | apply pw_below_drewN | apply below_drew1 | refine below_set ?_ GE113.out) | exact HB.out))) : w.heap.size ≤ gb114)); have n4_ := Aside0.mk ((by rw [hg]; exact (below_size (by repeat (first | (with_reducible first | exact HB.out | apply below_alloc | apply pw_below_drewN | apply below_drew1 | refine below_set ?_ GE113.out) | exact HB.out))) : w.heap.size ≤ gb114)); have n5_ := Aside0.mk ((by rw [hg]; exact Nat.ne_of_lt (blk_lt (g := gb113) (o := .cells #[.int .i64 a0_0, .int .i64 a0_1, .int .i64 a0_2, .string a0_3, .int .i64 a0_4, .int .i64 a0_5, .slice A0_6 l0_6.length c0_6] 38 (0, 0)) (by (with_reducible repeat (first | refine blk_drewN ?_ _ | refine blk_drew ?_ | refine blk_alloc ?_ _)); exact BK113.out)) : gb113 ≠ gb114)); have n6_ := Aside0.mk ((by rw [hg]; exact Nat.ne_of_gt (blk_lt (g := gb113) (o := .cells #[.int .i64 a0_0, .int .i64 a0_1, .int .i64 a0_2, .string a0_3, .int .i64 a0_4, .int .i64 a0_5, .slice A0_6 l0_6.length c0_6] 38 (0, 0)) (by (with_reducible repeat (first | refine blk_drewN ?_ _ | refine blk_drew ?_ | refine blk_alloc ?_ _)); exact BK113.out)) : gb114 ≠ gb113)); clear BK113; clear HB; have BK113 := n0_; have HB := n1_; have BK114 := n2_; have GW114 := n3_; have GE114 := n4_; have NB113_114 := n5_; have NB114_113 := n6_; clear n0_ n1_ n2_ n3_ n4_ n5_ n6_; clear hb hbox hg; have hnb14 := NB113_114.out; have hnc14 := NB114_113.out; have hcz15_0 : w13.cell? ⟨gb113, 0, none⟩ = some (.int .i64 a0_0) := (blk_cell BK113.out 0).trans rfl; have hcz15_1 : w13.cell? ⟨gb113, 1, none⟩ = some (.int .i64 a0_1) := (blk_cell BK113.out 1).trans rfl; have hcz15_2 : w13.cell? ⟨gb113, 2, none⟩ = some (.int .i64 a0_2) := (blk_cell BK113.out 2).trans rfl; have hcz15_3 : w13.cell? ⟨gb113, 3, none⟩ = some (.string a0_3) := (blk_cell BK113.out 3).trans rfl; have hcz15_4 : w13.cell? ⟨gb113, 4, none⟩ = some (.int .i64 a0_4) := (blk_cell BK113.out 4).trans rfl; have hcz15_5 : w13.cell? ⟨gb113, 5, none⟩ = some (.int .i64 a0_5) := (blk_cell BK113.out 5).trans rfl; have hcz15_6 : w13.cell? ⟨gb113, 6, none⟩ = some (.slice A0_6 l0_6.length c0_6) := (blk_cell BK113.out 6).trans rfl; have hfz15_0 := blk_frozen BK113.out 0; have hfz15_1 := blk_frozen BK113.out 1; have hfz15_2 := blk_frozen BK113.out 2; have hfz15_3 := blk_frozen BK113.out 3; have hfz15_4 := blk_frozen BK113.out 4; have hfz15_5 := blk_frozen BK113.out 5; have hfz15_6 := blk_frozen BK113.out 6; have hcz16_0 : w13.cell? ⟨gb114, 0, none⟩ = some (.int .i64 a1_0) := (blk_cell BK114.out 0).trans rfl; have hcz16_1 : w13.cell? ⟨gb114, 1, none⟩ = some (.int .i64 a1_1) := (blk_cell BK114.out 1).trans rfl; have hcz16_2 : w13.cell? ⟨gb114, 2, none⟩ = some (.int .i64 a1_2) := (blk_cell BK114.out 2).trans rfl; have hcz16_3 : w13.cell? ⟨gb114, 3, none⟩ = some (.string a1_3) := (blk_cell BK114.out 3).trans rfl; have hcz16_4 : w13.cell? ⟨gb114, 4, none⟩ = some (.int .i64 a1_4) := (blk_cell BK114.out 4).trans rfl; have hcz16_5 : w13.cell? ⟨gb114, 5, none⟩ = some (.int .i64 a1_5) := (blk_cell BK114.out 5).trans rfl; have hcz16_6 : w13.cell? ⟨gb114, 6, none⟩ = some (.slice A1_6 l1_6.length c1_6) := (blk_cell BK114.out 6).trans rfl; have hfz16_0 := blk_frozen BK114.out 0; have hfz16_1 := blk_frozen BK114.out 1; have hfz16_2 := blk_frozen BK114.out 2; have hfz16_3 := blk_frozen BK114.out 3; have hfz16_4 := blk_frozen BK114.out 4; have hfz16_5 := blk_frozen BK114.out 5; have hfz16_6 := blk_frozen BK114.out 6))
      go_ret
      exact ⟨by first | rfl | (simp [errW_none, errW_some] <;> rfl) | (simp [*, errW_none, errW_some] <;> rfl), by repeat (first | (with_reducible first | exact HB.out | apply below_alloc | apply pw_below_drewN | apply below_drew1 | refine below_set ?_ GE113.out | refine below_set ?_ GE114.out) | exact HB.out)⟩
  · rw [if_neg c3] at H
    have c3b0 : (a0_0 == a1_0) = false := beq_eq_false_iff_ne.mpr c3
    have c3b1 : (a0_0 != a1_0) = true := bne_iff_ne.mpr c3
    obtain rfl := Option.some.inj H
    go_enter Tryd.func42, Tryd.ntmps42
    go_wp2_with (first | ((with_reducible refine gate_dst (N := 2) rfl ?_); refine box_event ?hg (N := 2) ?hd (cs := #[.int .i64 a0_0, .int .i64 a0_1, .int .i64 a0_2, .string a0_3, .int .i64 a0_4, .int .i64 a0_5, .slice A0_6 l0_6.length c0_6]) (t := 38) ?hr ?_; (case hd => rfl); (case hg => rfl); (case hr => first | (go_simp; done) | (go_simp; rfl)); intro gb113 hg w17 hbox hb; have n0_ := Aside0.mk (below_step (by repeat (first | (with_reducible first | exact HB.out | apply below_alloc | apply pw_below_drewN | apply below_drew1) | exact HB.out)) hb); have n1_ := Aside0.mk (hbox); have n2_ := Aside0.mk ((by rw [hg]; exact (below_size (by repeat (first | (with_reducible first | exact HB.out | apply below_alloc | apply pw_below_drewN | apply below_drew1) | exact HB.out))) : w.heap.size ≤ gb113)); have n3_ := Aside0.mk ((by rw [hg]; exact (below_size (by repeat (first | (with_reducible first | exact HB.out | apply below_alloc | apply pw_below_drewN | apply below_drew1) | exact HB.out))) : w.heap.size ≤ gb113)); clear HB; have HB := n0_; have BK113 := n1_; have GW113 := n2_; have GE113 := n3_; clear n0_ n1_ n2_ n3_; clear hb hbox hg) | ((with_reducible refine gate_dst (N := 3) rfl ?_); refine box_event ?hg (N := 3) ?hd (cs := #[.int .i64 a1_0, .int .i64 a1_1, .int .i64 a1_2, .string a1_3, .int .i64 a1_4, .int .i64 a1_5, .slice A1_6 l1_6.length c1_6]) (t := 38) ?hr ?_; (case hd => rfl); (case hg => rfl); (case hr => first | (go_simp; done) | (go_simp; rfl)); intro gb114 hg w18 hbox hb; have n0_ := Aside0.mk (blk_below (g := gb113) (o := .cells #[.int .i64 a0_0, .int .i64 a0_1, .int .i64 a0_2, .string a0_3, .int .i64 a0_4, .int .i64 a0_5, .slice A0_6 l0_6.length c0_6] 38 (0, 0)) (by (with_reducible repeat (first | refine blk_drewN ?_ _ | refine blk_drew ?_ | refine blk_alloc ?_ _)); exact BK113.out) hb); have n1_ := Aside0.mk (below_step (by repeat (first | (with_reducible first | exact HB.out | apply below_alloc | apply pw_below_drewN | apply below_drew1 | refine below_set ?_ GE113.out) | exact HB.out)) hb); have n2_ := Aside0.mk (hbox); have n3_ := Aside0.mk ((by rw [hg]; exact (below_size (by repeat (first | (with_reducible first | exact HB.out | apply below_alloc | apply pw_below_drewN | apply below_drew1 | refine below_set ?_ GE113.out) | exact HB.out))) : w.heap.size ≤ gb114)); have n4_ := Aside0.mk ((by rw [hg]; exact (below_size (by repeat (first | (with_reducible first | exact HB.out | apply below_alloc | apply pw_below_drewN | apply below_drew1 | refine below_set ?_ GE113.out) | exact HB.out))) : w.heap.size ≤ gb114)); have n5_ := Aside0.mk ((by rw [hg]; exact Nat.ne_of_lt (blk_lt (g := gb113) (o := .cells #[.int .i64 a0_0, .int .i64 a0_1, .int .i64 a0_2, .string a0_3, .int .i64 a0_4, .int .i64 a0_5, .slice A0_6 l0_6.length c0_6] 38 (0, 0)) (by (with_reducible repeat (first | refine blk_drewN ?_ _ | refine blk_drew ?_ | refine blk_alloc ?_ _)); exact BK113.out)) : gb113 ≠ gb114)); have n6_ := Aside0.mk ((by rw [hg]; exact Nat.ne_of_gt (blk_lt (g := gb113) (o := .cells #[.int .i64 a0_0, .int .i64 a0_1, .int .i64 a0_2, .string a0_3, .int .i64 a0_4, .int .i64 a0_5, .slice A0_6 l0_6.length c0_6] 38 (0, 0)) (by (with_reducible repeat (first | refine blk_drewN ?_ _ | refine blk_drew ?_ | refine blk_alloc ?_ _)); exact BK113.out)) : gb114 ≠ gb113)); clear BK113; clear HB; have BK113 := n0_; have HB := n1_; have BK114 := n2_; have GW114 := n3_; have GE114 := n4_; have NB113_114 := n5_; have NB114_113 := n6_; clear n0_ n1_ n2_ n3_ n4_ n5_ n6_; clear hb hbox hg; have hnb19 := NB113_114.out; have hnc19 := NB114_113.out; have hcz20_0 : w18.cell? ⟨gb113, 0, none⟩ = some (.int .i64 a0_0) := (blk_cell BK113.out 0).trans rfl; have hcz20_1 : w18.cell? ⟨gb113, 1, none⟩ = some (.int .i64 a0_1) := (blk_cell BK113.out 1).trans rfl; have hcz20_2 : w18.cell? ⟨gb113, 2, none⟩ = some (.int .i64 a0_2) := (blk_cell BK113.out 2).trans rfl; have hcz20_3 : w18.cell? ⟨gb113, 3, none⟩ = some (.string a0_3) := (blk_cell BK113.out 3).trans rfl; have hcz20_4 : w18.cell? ⟨gb113, 4, none⟩ = some (.int .i64 a0_4) := (blk_cell BK113.out 4).trans rfl; have hcz20_5 : w18.cell? ⟨gb113, 5, none⟩ = some (.int .i64 a0_5) := (blk_cell BK113.out 5).trans rfl; have hcz20_6 : w18.cell? ⟨gb113, 6, none⟩ = some (.slice A0_6 l0_6.length c0_6) := (blk_cell BK113.out 6).trans rfl; have hfz20_0 := blk_frozen BK113.out 0; have hfz20_1 := blk_frozen BK113.out 1; have hfz20_2 := blk_frozen BK113.out 2; have hfz20_3 := blk_frozen BK113.out 3; have hfz20_4 := blk_frozen BK113.out 4; have hfz20_5 := blk_frozen BK113.out 5; have hfz20_6 := blk_frozen BK113.out 6; have hcz21_0 : w18.cell? ⟨gb114, 0, none⟩ = some (.int .i64 a1_0) := (blk_cell BK114.out 0).trans rfl; have hcz21_1 : w18.cell? ⟨gb114, 1, none⟩ = some (.int .i64 a1_1) := (blk_cell BK114.out 1).trans rfl; have hcz21_2 : w18.cell? ⟨gb114, 2, none⟩ = some (.int .i64 a1_2) := (blk_cell BK114.out 2).trans rfl; have hcz21_3 : w18.cell? ⟨gb114, 3, none⟩ = some (.string a1_3) := (blk_cell BK114.out 3).trans rfl; have hcz21_4 : w18.cell? ⟨gb114, 4, none⟩ = some (.int .i64 a1_4) := (blk_cell BK114.out 4).trans rfl; have hcz21_5 : w18.cell? ⟨gb114, 5, none⟩ = some (.int .i64 a1_5) := (blk_cell BK114.out 5).trans rfl; have hcz21_6 : w18.cell? ⟨gb114, 6, none⟩ = some (.slice A1_6 l1_6.length c1_6) := (blk_cell BK114.out 6).trans rfl; have hfz21_0 := blk_frozen BK114.out 0; have hfz21_1 := blk_frozen BK114.out 1; have hfz21_2 := blk_frozen BK114.out 2; have hfz21_3 := blk_frozen BK114.out 3; have hfz21_4 := blk_frozen BK114.out 4; have hfz21_5 := blk_frozen BK114.out 5; have hfz21_6 := blk_frozen BK114.out 6))
    go_ret
    exact ⟨by first | rfl | (simp [errW_none, errW_some] <;> rfl) | (simp [*, errW_none, errW_some] <;> rfl), by repeat (first | (with_reducible first | exact HB.out | apply below_alloc | apply pw_below_drewN | apply below_drew1 | refine below_set ?_ GE113.out | refine below_set ?_ GE114.out) | exact HB.out)⟩
end Go.Proofs.YtmeblifbkhpdnaaDoor.K
namespace Go.Proofs.YtmeblifbkhpdnaaDoor.K
set_option linter.unusedVariables false
set_option linter.unusedSimpArgs false
open Go.RowKit Go.Proofs.YtmeblifbkhpdnaaDoorW.PrintWords Go.Proofs.YtmeblifbkhpdnaaDoorW.PrintLast Go.Proofs.YtmeblifbkhpdnaaDoorW.PrintMore
def eqBy {α : Type} (f : α → α → Bool) : List α → List α → Bool
  | [], [] => true
  | x :: a, y :: b => f x y && eqBy f a b
  | _, _ => false
theorem eqBy_iff {α : Type} {f : α → α → Bool} (hf : ∀ x y, f x y = true ↔ x = y) : ∀ a b : List α, eqBy f a b = true ↔ a = b
  | [], [] => by simp [eqBy]
  | x :: a, y :: b => by simp [eqBy, hf, eqBy_iff hf a b]
  | [], y :: b => by simp [eqBy]
  | x :: a, [] => by simp [eqBy]
theorem eqBy_len {α : Type} {f : α → α → Bool} : ∀ {a b : List α}, a.length ≠ b.length → eqBy f a b = false
  | [], [], h => absurd rfl h
  | x :: a, y :: b, h => by simp [eqBy, eqBy_len (a := a) (b := b) (fun e => h (by simp [e]))]
  | [], y :: b, _ => rfl
  | x :: a, [], _ => rfl
theorem toList_inj {s t : ByteArray} : s.toList = t.toList ↔ s = t := by
  rw [ByteArray.toList_eq, ByteArray.toList_eq]
  constructor
  · intro h
    cases s; cases t
    simpa [Array.toList_inj] using h
  · rintro rfl
    rfl
def sameLine (x y : Line) : Bool := x.f0.toList == y.f0.toList && (x.f1 == y.f1)
theorem sameLine_iff (x y : Line) : sameLine x y = true ↔ x = y := by
  unfold sameLine
  obtain ⟨a, b⟩ := x
  obtain ⟨c, d⟩ := y
  simp [toList_inj]
def sameOp (a b : Opn) : Bool := decide (a.f0 = b.f0) && (decide (a.f1.toList = b.f1.toList) && (decide (a.f2 = b.f2) && (decide (a.f3 = b.f3) && eqBy sameLine a.f4 b.f4)))
theorem sameOp_iff (a b : Opn) : sameOp a b = true ↔ a = b := by
  unfold sameOp
  obtain ⟨a0, a1, a2, a3, a4⟩ := a
  obtain ⟨b0, b1, b2, b3, b4⟩ := b
  simp [toList_inj, eqBy_iff sameLine_iff]
abbrev Ent := S38
def kEnt : Kd Ent := k38
def sameEnt (a b : Ent) : Bool := decide (a.f0 = b.f0) && (decide (a.f1 = b.f1) && sameOp a.f2 b.f2)
theorem sameEnt_iff (a b : Ent) : sameEnt a b = true ↔ a = b := by
  unfold sameEnt
  obtain ⟨a0, a1, a2⟩ := a
  obtain ⟨b0, b1, b2⟩ := b
  simp [sameOp_iff]
theorem lines_loop (a b : List Line) (hab : a.length = b.length) (hm : a.length ≤ maxLen) (d : Nat) : ∀ (i n : Nat), i + d = a.length → api_Line.l0 (n + d + 1) a b (a.length : Int) (i : Int) = some (eqBy sameLine (a.drop i) (b.drop i)) := by
  induction d with
  | zero =>
    intro i n hi
    rw [api_Line.l0, if_neg (by omega), List.drop_of_length_le (by omega), List.drop_of_length_le (by omega)]
    rfl
  | succ d ih =>
    intro i n hi
    have h1 : i < a.length := by omega
    have h2 : i < b.length := by omega
    rw [show n + (d + 1) + 1 = (n + d + 1) + 1 by omega, api_Line.l0, if_pos (by omega), if_pos (by omega), if_pos (by omega), if_pos (by omega), wrap_next a.length i h1 hm, ih (i + 1) n (by omega)]
    rw [List.drop_eq_getElem_cons h1, List.drop_eq_getElem_cons h2]
    have e1 : rd_T118 a (i : Int) = a[i] := by simp [rd_T118, List.getElem?_eq_getElem h1, List.getD_eq_getElem?_getD]
    have e2 : rd_T118 b (i : Int) = b[i] := by simp [rd_T118, List.getElem?_eq_getElem h2, List.getD_eq_getElem?_getD]
    rw [e1, e2]
    simp only [eqBy]
    cases hs : sameLine a[i] b[i] <;> unfold sameLine at hs <;> revert hs <;> cases a[i].f0.toList == b[i].f0.toList <;> cases a[i].f1 == b[i].f1 <;> simp
theorem lines_same (a b : List Line) (hm : a.length ≤ maxLen) : ∃ k, api_Line.f k a b = some (eqBy sameLine a b) := by
  by_cases hab : a.length = b.length
  · refine ⟨0 + a.length + 1, ?_⟩
    rw [api_Line.f, if_pos (by omega)]
    exact lines_loop a b hab hm a.length 0 0 (by omega)
  · exact ⟨0, by rw [api_Line.f, if_neg (by omega), eqBy_len hab]⟩
theorem op_same (a b : Opn) (hm : a.f4.length ≤ maxLen) : ∃ k, item_Same.f k a.f0 a.f1 a.f2 a.f3 a.f4 b.f0 b.f1 b.f2 b.f3 b.f4 = some (sameOp a b) := by
  obtain ⟨k, hk⟩ := lines_same a.f4 b.f4 hm
  refine ⟨k, ?_⟩
  unfold item_Same.f sameOp
  rw [hk]
  by_cases h0 : a.f0 = b.f0 <;> by_cases h1 : a.f1.toList = b.f1.toList <;> by_cases h2 : a.f2 = b.f2 <;> by_cases h3 : a.f3 = b.f3 <;> simp [h0, h1, h2, h3]
theorem ent_same (a b : Ent) (hm : a.f2.f4.length ≤ maxLen) : ∃ k, entry_Same.f k a.f0 a.f1 a.f2.f0 a.f2.f1 a.f2.f2 a.f2.f3 a.f2.f4 b.f0 b.f1 b.f2.f0 b.f2.f1 b.f2.f2 b.f2.f3 b.f2.f4 = some (sameEnt a b) := by
  obtain ⟨k, hk⟩ := op_same a.f2 b.f2 hm
  refine ⟨k, ?_⟩
  unfold entry_Same.f sameEnt
  rw [hk]
  by_cases h0 : a.f0 = b.f0 <;> by_cases h1 : a.f1 = b.f1 <;> simp [h0, h1]
theorem entry_Same' (w : World) (A A' : Option Addr) (c c' : Nat) (a b : Ent) (hA : kLine.C w A a.f2.f4.length a.f2.f4) (hc : a.f2.f4.length ≤ c) (hA' : kLine.C w A' b.f2.f4.length b.f2.f4) (hc' : b.f2.f4.length ≤ c') :
    Calls Tryd.prog 42 #[.agg #[.int .i64 a.f0, .int .i64 a.f1, .int .i64 a.f2.f0, .string a.f2.f1, .int .i64 a.f2.f2, .int .i64 a.f2.f3, .slice A a.f2.f4.length c], .agg #[.int .i64 b.f0, .int .i64 b.f1, .int .i64 b.f2.f0, .string b.f2.f1, .int .i64 b.f2.f2, .int .i64 b.f2.f3, .slice A' b.f2.f4.length c']] w fun en w' => en = .returned (.bool (sameEnt a b)) ∧ Below w.heap.size w w' := by
  obtain ⟨k, hk⟩ := ent_same a b hA.2.1
  exact entry_Same.calls k _ _ _ _ _ _ A c _ _ _ _ _ _ _ A' c' _ _ w hA hc hA' hc' hk
end Go.Proofs.YtmeblifbkhpdnaaDoor.K
namespace Go.Proofs.YtmeblifbkhpdnaaDoor.K
set_option linter.unusedVariables false
set_option linter.unusedSimpArgs false
open Go.RowKit Go.Proofs.YtmeblifbkhpdnaaDoorW.PrintWords Go.Proofs.YtmeblifbkhpdnaaDoorW.PrintLast Go.Proofs.YtmeblifbkhpdnaaDoorW.PrintMore
def entOk (x : Ent) : Bool := (decide (0 ≤ x.f0) && decide (x.f0 < 8)) && (qty x.f1 && opOk x.f2)
def entE (x : Ent) : Int := if entOk x then 0 else 2
abbrev entV (x : Ent) (v : Value) : Value := .agg #[.int .i64 x.f0, .int .i64 x.f1, .int .i64 x.f2.f0, .string x.f2.f1, .int .i64 x.f2.f2, .int .i64 x.f2.f3, v]
theorem entE_bad (x : Ent) (h : (0 ≤ x.f0 ∧ x.f0 < 8 ∧ 1 ≤ x.f1 ∧ x.f1 ≤ 2147483647) → False) : entE x = 2 := by
  have : entOk x = false := by
    cases he : entOk x
    · rfl
    · unfold entOk at he
      simp only [Bool.and_eq_true, decide_eq_true_eq, qty_iff] at he
      exact (h ⟨he.1.1, he.1.2, he.2.1.1, he.2.1.2⟩).elim
  unfold entE
  rw [this]
  rfl
theorem entE_good (x : Ent) (h : 0 ≤ x.f0 ∧ x.f0 < 8 ∧ 1 ≤ x.f1 ∧ x.f1 ≤ 2147483647) : entE x = opE x.f2 := by
  have : entOk x = opOk x.f2 := by
    unfold entOk
    rw [show qty x.f1 = true from (qty_iff _).2 ⟨h.2.2.1, h.2.2.2⟩]
    simp [h.1, h.2.1]
  unfold entE opE
  rw [this]
set_option maxRecDepth 20000 in
set_option maxHeartbeats 4000000 in
theorem entry_Check (w : World) (A : Option Addr) (c : Nat) (x : Ent) (hG : GItem w) (hA : kLine.C w A x.f2.f4.length x.f2.f4) (hc : x.f2.f4.length ≤ c) :
    Calls Tryd.prog 41 #[entV x (.slice A x.f2.f4.length c)] w fun en w' => en = .returned (.int .i64 (entE x)) ∧ Below w.heap.size w w' := by
  have HW := Aside0.mk (below_alloc (Below.refl w.heap.size w) (.cells #[.int .i64 x.f0, .int .i64 x.f1, .int .i64 x.f2.f0, .string x.f2.f1, .int .i64 x.f2.f2, .int .i64 x.f2.f3, .slice A x.f2.f4.length c] 38))
  have HCK := Aside0.mk (item_Check (w.alloc (.cells #[.int .i64 x.f0, .int .i64 x.f1, .int .i64 x.f2.f0, .string x.f2.f1, .int .i64 x.f2.f2, .int .i64 x.f2.f3, .slice A x.f2.f4.length c] 38)) A c x.f2 (hG.below HW.out) (Kd.C_below hA HW.out) hc)
  have HB := Aside0.mk (entE_bad x)
  have HGD := Aside0.mk (entE_good x)
  clear hG hA hc
  by_cases h1 : x.f0 < 0
  · have d1 : decide (x.f0 < 0) = true := by simpa using h1
    have HE := Aside0.mk (HB.out (fun h => by omega))
    clear h1 HB HGD HCK
    go_enter Tryd.func41, Tryd.ntmps41
    go_wp2_with fail
    go_ret
    exact ⟨by rw [HE.out]; rfl, HW.out⟩
  have d1 : decide (x.f0 < 0) = false := by simpa using h1
  by_cases h2 : 8 ≤ x.f0
  · have d2 : decide (8 ≤ x.f0) = true := by simpa using h2
    have HE := Aside0.mk (HB.out (fun h => by omega))
    clear h1 h2 HB HGD HCK
    go_enter Tryd.func41, Tryd.ntmps41
    go_wp2_with fail
    go_ret
    exact ⟨by rw [HE.out]; rfl, HW.out⟩
  have d2 : decide (8 ≤ x.f0) = false := by simpa using h2
  by_cases h3 : x.f1 < 1
  · have d3 : decide (x.f1 < 1) = true := by simpa using h3
    have HE := Aside0.mk (HB.out (fun h => by omega))
    clear h1 h2 h3 HB HGD HCK
    go_enter Tryd.func41, Tryd.ntmps41
    go_wp2_with fail
    go_ret
    exact ⟨by rw [HE.out]; rfl, HW.out⟩
  have d3 : decide (x.f1 < 1) = false := by simpa using h3
  by_cases h4 : 2147483647 < x.f1
  · have d4 : decide (2147483647 < x.f1) = true := by simpa using h4
    have HE := Aside0.mk (HB.out (fun h => by omega))
    clear h1 h2 h3 h4 HB HGD HCK
    go_enter Tryd.func41, Tryd.ntmps41
    go_wp2_with fail
    go_ret
    exact ⟨by rw [HE.out]; rfl, HW.out⟩
  have d4 : decide (2147483647 < x.f1) = false := by simpa using h4
  have HE := Aside0.mk (HGD.out (by omega))
  clear h1 h2 h3 h4 HB HGD
  go_enter Tryd.func41, Tryd.ntmps41
  go_wp2_with (first | (go_at_call 81; refine HCK.out.mono ?_; rintro e w' ⟨rfl, hb⟩; have HB2 := Aside0.mk hb; clear hb))
  go_ret
  exact ⟨by rw [HE.out]; rfl, HW.out.trans (HB2.out.mono HW.out.size)⟩
def entB (x : Ent) : List Int := [x.f0 % 256] ++ vEnc x.f1.toNat ++ opB x.f2
def entR (x : Ent) : List Int := if entOk x then entB x else []
end Go.Proofs.YtmeblifbkhpdnaaDoor.K
namespace Go.Proofs.YtmeblifbkhpdnaaDoor.K
set_option linter.unusedVariables false
set_option linter.unusedSimpArgs false
open Go.RowKit Go.Proofs.YtmeblifbkhpdnaaDoorW.PrintWords Go.Proofs.YtmeblifbkhpdnaaDoorW.PrintLast Go.Proofs.YtmeblifbkhpdnaaDoorW.PrintMore
theorem flatMap_len {α : Type} (f : α → List Int) (m : Nat) : ∀ l : List α, (∀ x ∈ l, (f x).length ≤ m) → (l.flatMap f).length ≤ m * l.length
  | [], _ => by simp
  | x :: l, h => by
    rw [List.flatMap_cons, List.length_append, List.length_cons]
    have h1 := h x (by simp)
    have h2 := flatMap_len f m l (fun y hy => h y (by simp [hy]))
    rw [Nat.mul_add]
    omega
theorem opB_len (o : Opn) (h : opOk o = true) (hw : I64 o.f3) : (opB o).length ≤ 161 := by
  obtain ⟨p0, p1, p2, p3, p4⟩ := opOk_parts o h
  unfold opB
  simp only [List.length_append, List.length_cons, List.length_nil]
  have a1 : (if iHas o.f0 1 then vEnc o.f1.size ++ sB o.f1 else []).length ≤ 18 := by
    cases h1 : iHas o.f0 1
    · simp
    · have e1 := nameOk_size _ (may_on p1 h1)
      have e2 := vEnc_ten o.f1.size (by omega)
      simp only [if_true, List.length_append, sB_len]
      omega
  have a2 : (if iHas o.f0 2 then vEnc o.f2.toNat else []).length ≤ 10 := by
    cases h2 : iHas o.f0 2
    · simp
    · have e1 := (qty_iff _).1 (may_on p2 h2)
      have e2 := vEnc_ten o.f2.toNat (by omega)
      simpa using e2
  have a3 : (if iHas o.f0 8 then vEnc (zig o.f3) else if iHas o.f0 4 then vEnc o.f3.toNat else []).length ≤ 10 := by
    cases h8 : iHas o.f0 8
    · cases h4 : iHas o.f0 4
      · simp
      · have e1 := opN_range o hw (may_on p3 h4)
        have e2 := vEnc_ten o.f3.toNat (by omega)
        simpa using e2
    · have e2 := vEnc_ten (zig o.f3) (zig_lt _ hw.1 hw.2)
      simpa using e2
  have a4 : (if iHas o.f0 16 then vEnc o.f4.length ++ o.f4.flatMap lineB else []).length ≤ 122 := by
    cases h16 : iHas o.f0 16
    · simp
    · obtain ⟨b1, _, b3, _⟩ := lines_facts _ (may_on p4 h16)
      have e1 := vEnc_ten o.f4.length (by omega)
      have e2 := flatMap_len lineB 28 o.f4 (fun x hx => lineB_len x (List.all_eq_true.1 b1 x hx))
      simp only [if_true, List.length_append]
      omega
  omega
theorem entOk_parts (x : Ent) (h : entOk x = true) : 0 ≤ x.f0 ∧ x.f0 < 8 ∧ 1 ≤ x.f1 ∧ x.f1 ≤ 2147483647 ∧ opOk x.f2 = true := by
  unfold entOk at h
  simp only [Bool.and_eq_true, decide_eq_true_eq, qty_iff] at h
  exact ⟨h.1.1, h.1.2, h.2.1.1, h.2.1.2, h.2.2⟩
theorem entB_len (x : Ent) (h : entOk x = true) (hw : I64 x.f2.f3) : (entB x).length ≤ 172 := by
  obtain ⟨_, _, h3, h4, h5⟩ := entOk_parts x h
  have e1 := opB_len _ h5 hw
  have e2 := vEnc_ten x.f1.toNat (by omega)
  unfold entB
  simp only [List.length_append, List.length_cons, List.length_nil]
  omega
set_option maxRecDepth 20000 in
set_option maxHeartbeats 4000000 in
theorem entry_Bytes (w : World) (A : Option Addr) (c : Nat) (x : Ent) (hG : GItem w) (hA : kLine.C w A x.f2.f4.length x.f2.f4) (hc : x.f2.f4.length ≤ c) (hw : I64 x.f2.f3) :
    Calls Tryd.prog 35 #[entV x (.slice A x.f2.f4.length c)] w fun en w' => ∃ v, en = .returned (.tuple #[v, .int .i64 (entE x)]) ∧ Kd.R (Kd.int .u8) 5 w' w.heap.size (fun _ => True) v (entR x) ∧ Below w.heap.size w w' := by
  have HW := Aside0.mk (below_alloc (Below.refl w.heap.size w) (.cells #[.int .i64 x.f0, .int .i64 x.f1, .int .i64 x.f2.f0, .string x.f2.f1, .int .i64 x.f2.f2, .int .i64 x.f2.f3, .slice A x.f2.f4.length c] 38))
  obtain ⟨w0, hw0⟩ : ∃ w0, w0 = w.alloc (.cells #[.int .i64 x.f0, .int .i64 x.f1, .int .i64 x.f2.f0, .string x.f2.f1, .int .i64 x.f2.f2, .int .i64 x.f2.f3, .slice A x.f2.f4.length c] 38) := ⟨_, rfl⟩
  have HBX : Aside0 (w0.heap[w.heap.size]? = some (.cells #[.int .i64 x.f0, .int .i64 x.f1, .int .i64 x.f2.f0, .string x.f2.f1, .int .i64 x.f2.f2, .int .i64 x.f2.f3, .slice A x.f2.f4.length c] 38 (0, 0))) := ⟨by rw [hw0]; exact blk_new w _⟩
  rw [← hw0] at HW
  have HCK := Aside0.mk (entry_Check w0 A c x (hG.below HW.out) (Kd.C_below hA HW.out) hc)
  have HBT := Aside0.mk (fun W (hb : Below w0.heap.size w0 W) => item_Bytes W A c x.f2 ((hG.below HW.out).below hb) (Kd.C_below (Kd.C_below hA HW.out) hb) hc hw)
  have HI := Aside0.mk hw
  clear hG hA hc hw
  have hE : entE x = if entOk x then 0 else 2 := rfl
  have hR : entR x = if entOk x then entB x else [] := rfl
  cases hok : entOk x
  · rw [hok] at hE hR
    simp only [Bool.false_eq_true, if_false] at hE hR
    rw [hE] at HCK
    have HE := Aside0.mk hE
    have HR := Aside0.mk hR
    clear hE hR HBT HI hok
    go_enter Tryd.func35, Tryd.ntmps35
    go_wp2_with (first | (go_at_call 41; rw [← hw0]; refine HCK.out.mono ?_; rintro e w' ⟨rfl, hb⟩; have HB2 := Aside0.mk hb; clear hb))
    go_ret2
    exact ⟨_, by rw [HE.out]; rfl, by rw [HR.out]; exact Kd.R_nil _ _ _ _ _, HW.out.trans (HB2.out.mono HW.out.size)⟩
  · rw [hok] at hE hR
    simp only [if_true] at hE hR
    rw [hE] at HCK
    have HE := Aside0.mk hE
    have HR := Aside0.mk hR
    obtain ⟨h0, h1, h2, h3, h4⟩ := entOk_parts x hok
    have hoE : opE x.f2 = 0 := by unfold opE; rw [h4]; rfl
    have hoR : opR x.f2 = opB x.f2 := by unfold opR; rw [h4]; rfl
    rw [hoE, hoR] at HBT
    have HOL := Aside0.mk (opB_len _ h4 HI.out)
    have hwn : IntKind.u64.wrap x.f1 = x.f1 := wrap_u64 _ (by omega) (by omega)
    have HV := Aside0.mk (fun W A1 c1 (hC : Kd.C (Kd.int .u8) W A1 [x.f0 % 256].length [x.f0 % 256]) (hc1 : [x.f0 % 256].length ≤ c1) => bits_Varint W A1 c1 [x.f0 % 256] x.f1.toNat hC hc1 (by simp) (by omega))
    rw [Int.toNat_of_nonneg (by omega)] at HV
    have HVL := Aside0.mk (vEnc_ten x.f1.toNat (by omega))
    clear hE hR hok h0 h1 h2 h3 h4 hoE hoR HI
    go_enter Tryd.func35, Tryd.ntmps35
    go_upto_region 5 with (first | (go_at_call 41; rw [← hw0]; refine HCK.out.mono ?_; rintro e w1 ⟨rfl, hb⟩; have HB2 := Aside0.mk hb; have HBX2 := Aside0.mk (blk_below HBX.out hb); have g0 := blk_cell HBX2.out 0; have g1 := blk_cell HBX2.out 1; have g2 := blk_cell HBX2.out 2; have g3 := blk_cell HBX2.out 3; have g4 := blk_cell HBX2.out 4; have g5 := blk_cell HBX2.out 5; have g6 := blk_cell HBX2.out 6; simp only [List.getElem?_toArray, List.getElem?_cons_zero, List.getElem?_cons_succ] at g0 g1 g2 g3 g4 g5 g6; clear hb) | (go_at_call 75; refine (HBT.out _ HB2.out).mono ?_; rintro e w2 ⟨v, rfl, hv, hb⟩; have HO := Aside0.mk hv; have HB3 := Aside0.mk (HB2.out.trans (hb.mono HB2.out.size)); have HBX3 := Aside0.mk (blk_below HBX2.out hb); clear g0 g1 g2 g3 g4 g5 g6; have g0 := blk_cell HBX3.out 0; have g1 := blk_cell HBX3.out 1; simp only [List.getElem?_toArray, List.getElem?_cons_zero, List.getElem?_cons_succ] at g0 g1; clear hv hb))
    obtain ⟨A2, c2, e2, hc2, hr2⟩ := R_C HO.out
    cases e2
    have HR2 := Aside0.mk hr2
    have HB4 := Aside0.mk (below_alloc (Below.refl w2.heap.size w2) (.cells #[.int .u8 (x.f0 % 256)] 5))
    have HV2 := Aside0.mk (HV.out (w2.alloc (.cells #[.int .u8 (x.f0 % 256)] 5)) (some ⟨w2.heap.size, 0, none⟩) 1 (lit_C .u8 w2 5 (0, 0) [x.f0 % 256] (by simp)) (by simp))
    have g8 : (w2.alloc (.cells #[.int .u8 (x.f0 % 256)] 5)).cell? ⟨w.heap.size, 1, none⟩ = some (.int .i64 x.f1) := blk_cell (blk_alloc HBX3.out _) 1
    clear hr2 hc2 HV
    go_wp2_with (first | (go_at_call 34; refine HV2.out.mono ?_; rintro e w3 ⟨v3, rfl, hv, hb⟩; have HB5 := Aside0.mk (HB4.out.trans (hb.mono HB4.out.size)); have HR3 := Aside0.mk (Kd.C_below HR2.out HB5.out); have HB6 := Aside0.mk (HW.out.trans ((HB3.out.trans (HB5.out.mono HB3.out.size)).mono HW.out.size)); have HO3 := Aside0.mk (Kd.R_lower hv (show w.heap.size ≤ (w2.alloc (.cells #[.int .u8 (x.f0 % 256)] 5)).heap.size from Nat.le_trans HW.out.size (Nat.le_trans HB3.out.size HB4.out.size))); clear hv hb) | ((with_reducible refine gate_builtin (b := .append) (xs := #[.tmp 25, .tmp 26]) rfl ?_); at_builtin; refine Kd.R_append_rows (Kd.int .u8) (w0 := w) w.heap.size rfl (.tmp 25) (.tmp 26) 22 5 (.int .u8 0) 1 rfl Tryd.underlying22 infou8 rfl (by decide) (by omega) (v3) ([x.f0 % 256] ++ vEnc x.f1.toNat) (opB x.f2) _ _ _ (fun _ => True) (fun _ => False) rfl rfl ?aO ?aR (fun _ _ h => h) (fun _ h => h.elim) ?aF ?aB ?aS ?aL ?_; (case aR => repeat (first | exact HR3.out | (with_reducible refine Kd.C_alloc ?_ _) | (with_reducible refine Kd.C_drewN ?_ _) | (with_reducible refine Kd.C_drew ?_))); (case aB => exact (by repeat (first | (with_reducible first | exact HB6.out | apply below_alloc | apply pw_below_drewN | apply below_drew1) | exact HB6.out))); (case aF => exact (fun _ _ => trivial)); (case aO => exact (by (with_reducible repeat (first | apply Kd.R_alloc | apply Kd.R_drewN | apply Kd.R_drew)); exact HO3.out)); (case aS => exact (below_size (by repeat (first | (with_reducible first | exact HB6.out | apply below_alloc | apply pw_below_drewN | apply below_drew1) | exact HB6.out)))); (case aL => (have h1 := HOL.out; have h2 := HVL.out; simp only [List.length_append, List.length_cons, List.length_nil]; omega)); intro v7 w7 hv hw hg7 hat7; clear hg7 hat7))
    go_ret2
    exact ⟨_, by rw [HE.out]; rfl, by rw [HR.out]; exact hv, hw⟩
end Go.Proofs.YtmeblifbkhpdnaaDoor.K
namespace Go.Proofs.YtmeblifbkhpdnaaDoor.K
set_option linter.unusedVariables false
set_option linter.unusedSimpArgs false
open Go.RowKit Go.Proofs.YtmeblifbkhpdnaaDoorW.PrintWords Go.Proofs.YtmeblifbkhpdnaaDoorW.PrintLast Go.Proofs.YtmeblifbkhpdnaaDoorW.PrintMore
theorem vr_suffix : ∀ (t : List Int) (i : Nat) (u : Int), (vr i u t).2.1 <:+ t
  | [], i, u => by rw [vr]; exact List.nil_suffix
  | c :: t, i, u => by
    rw [vr]
    split
    · exact List.nil_suffix
    · split
      · exact List.nil_suffix
      · split
        · exact List.suffix_cons _ _
        · exact (vr_suffix t (i + 1) _).trans (List.suffix_cons _ _)
theorem rVar_suffix (l : List Int) (e : Int) : (rVar l e).2.1 <:+ l := by
  unfold rVar
  split
  · exact List.nil_suffix
  · exact vr_suffix l 0 0
theorem rNum_suffix (n : Nat) (l : List Int) (e : Int) : (rNum n l e).2.1 <:+ l := by
  unfold rNum
  split
  · exact List.suffix_refl _
  · split
    · exact List.nil_suffix
    · exact List.drop_suffix _ _
def zEnt : Ent := ⟨0, 0, zOp⟩
def pEnt (l : List Int) : Ent × Int :=
  let a := rNum 1 l 0
  let b := rVar a.2.1 a.2.2
  if b.2.2 ≠ 0 then (zEnt, b.2.2) else
  let o := pOp b.2.1
  if o.2 ≠ 0 then (zEnt, o.2) else
  let x : Ent := ⟨a.1, min b.1 2147483648, o.1⟩
  if entE x ≠ 0 then (zEnt, 4) else (x, 0)
abbrev entC (x : Ent) (v : Value) : Array Value := #[.int .i64 x.f0, .int .i64 x.f1, .int .i64 x.f2.f0, .string x.f2.f1, .int .i64 x.f2.f2, .int .i64 x.f2.f3, v]
abbrev put7 (W : World) (b : Nat) (v0 v1 v2 v3 v4 v5 v6 : Value) : World := ((((((W.setCell ⟨b, 0, none⟩ v0).setCell ⟨b, 1, none⟩ v1).setCell ⟨b, 2, none⟩ v2).setCell ⟨b, 3, none⟩ v3).setCell ⟨b, 4, none⟩ v4).setCell ⟨b, 5, none⟩ v5).setCell ⟨b, 6, none⟩ v6
theorem put7_box {W : World} {b : Nat} {y0 y1 y2 y3 y4 y5 y6 : Value} {t : TypeId} (h : W.heap[b]? = some (.cells #[y0, y1, y2, y3, y4, y5, y6] t (0, 0))) (v0 v1 v2 v3 v4 v5 v6 : Value) : (put7 W b v0 v1 v2 v3 v4 v5 v6).heap[b]? = some (.cells #[v0, v1, v2, v3, v4, v5, v6] t (0, 0)) :=
  by
  have h0 := blk_put h 0 v0 (cs' := #[v0, y1, y2, y3, y4, y5, y6]) rfl
  have h1 := blk_put h0 1 v1 (cs' := #[v0, v1, y2, y3, y4, y5, y6]) rfl
  have h2 := blk_put h1 2 v2 (cs' := #[v0, v1, v2, y3, y4, y5, y6]) rfl
  have h3 := blk_put h2 3 v3 (cs' := #[v0, v1, v2, v3, y4, y5, y6]) rfl
  have h4 := blk_put h3 4 v4 (cs' := #[v0, v1, v2, v3, v4, y5, y6]) rfl
  have h5 := blk_put h4 5 v5 (cs' := #[v0, v1, v2, v3, v4, v5, y6]) rfl
  exact blk_put h5 6 v6 (cs' := #[v0, v1, v2, v3, v4, v5, v6]) rfl
theorem box7 {W : World} {b : Nat} {y0 y1 y2 y3 y4 y5 y6 : Value} {t : TypeId} (h : W.heap[b]? = some (.cells #[y0, y1, y2, y3, y4, y5, y6] t (0, 0))) : (W.cell? ⟨b, 0, none⟩ = some y0 ∧ W.cell? ⟨b, 1, none⟩ = some y1 ∧ W.cell? ⟨b, 2, none⟩ = some y2 ∧ W.cell? ⟨b, 3, none⟩ = some y3 ∧ W.cell? ⟨b, 4, none⟩ = some y4 ∧ W.cell? ⟨b, 5, none⟩ = some y5 ∧ W.cell? ⟨b, 6, none⟩ = some y6) ∧
    (W.frozen? ⟨b, 0, none⟩ = false ∧ W.frozen? ⟨b, 1, none⟩ = false ∧ W.frozen? ⟨b, 2, none⟩ = false ∧ W.frozen? ⟨b, 3, none⟩ = false ∧ W.frozen? ⟨b, 4, none⟩ = false ∧ W.frozen? ⟨b, 5, none⟩ = false ∧ W.frozen? ⟨b, 6, none⟩ = false) :=
  ⟨⟨blk_cell h 0, blk_cell h 1, blk_cell h 2, blk_cell h 3, blk_cell h 4, blk_cell h 5, blk_cell h 6⟩, ⟨blk_frozen h 0, blk_frozen h 1, blk_frozen h 2, blk_frozen h 3, blk_frozen h 4, blk_frozen h 5, blk_frozen h 6⟩⟩
theorem put7_grown (W : World) (b : Nat) (v0 v1 v2 v3 v4 v5 v6 : Value) : W.grownBy (put7 W b v0 v1 v2 v3 v4 v5 v6) (some b) :=
  grown_set (grown_set (grown_set (grown_set (grown_set (grown_set (grown_set (World.grownBy.refl W _)))))))
set_option maxHeartbeats 2000000 in
theorem ret_ent {W : World} {b : Nat} {x : Ent} {v : Value} {e : Int} {tmps : Array Value} (h : W.heap[b]? = some (.cells (entC x v) 38 (0, 0))) (h2 : tmps.getD 2 undef = .pointer (some ⟨b, 0, none⟩)) (h3 : tmps.getD 3 undef = .int .i64 e) :
    (results Tryd.f60 tmps).run Tryd.prog W = .ok (.tuple #[entV x v, .int .i64 e]) W := by
  have q0 := blk_cell h 0
  have q1 := blk_cell h 1
  have q2 := blk_cell h 2
  have q3 := blk_cell h 3
  have q4 := blk_cell h 4
  have q5 := blk_cell h 5
  have q6 := blk_cell h 6
  simp only [List.getElem?_toArray, List.getElem?_cons_zero, List.getElem?_cons_succ] at q0 q1 q2 q3 q4 q5 q6
  rw [results_cell_tmp (p := 2) (u := 3) (ty := 38) rfl, h2, h3]
  simp [go_sem, q0, q1, q2, q3, q4, q5, q6]
set_option maxRecDepth 20000 in
set_option maxHeartbeats 4000000 in
theorem entry_Parse (w : World) (A : Option Addr) (c : Nat) (l : List Int) (hG : GItem w) (hC : Kd.C (Kd.int .u8) w A l.length l) (hc : l.length ≤ c) (hb : CrcMath.Bytes l) (hl : l.length < 140737488355328) :
    Calls Tryd.prog 60 #[.slice A l.length c] w fun en w' => ∃ v, en = .returned (.tuple #[entV (pEnt l).1 v, .int .i64 (pEnt l).2]) ∧ Kd.R kLine 118 w' w.heap.size (fun _ => True) v (pEnt l).1.f2.f4 ∧ Below w.heap.size w w' := by
  have HG := Aside0.mk hG
  have HC := Aside0.mk hC
  have HCC := Aside0.mk hc
  have HBY := Aside0.mk hb
  have HL := Aside0.mk hl
  clear hG hC hc hb hl
  have HREAD := bits_Read (w.alloc (.cells #[.int .i64 0, .int .i64 0, .int .i64 0, .string ⟨#[]⟩, .int .i64 0, .int .i64 0, .slice none 0 0] 38)) A c l (Kd.C_alloc HC.out _) HCC.out HBY.out HL.out
  have hp : pEnt l = if (rVar (rNum 1 l 0).2.1 (rNum 1 l 0).2.2).2.2 ≠ 0 then (zEnt, (rVar (rNum 1 l 0).2.1 (rNum 1 l 0).2.2).2.2) else if (pOp (rVar (rNum 1 l 0).2.1 (rNum 1 l 0).2.2).2.1).2 ≠ 0 then (zEnt, (pOp (rVar (rNum 1 l 0).2.1 (rNum 1 l 0).2.2).2.1).2) else
    if entE (⟨(rNum 1 l 0).1, min (rVar (rNum 1 l 0).2.1 (rNum 1 l 0).2.2).1 2147483648, (pOp (rVar (rNum 1 l 0).2.1 (rNum 1 l 0).2.2).2.1).1⟩ : Ent) ≠ 0 then (zEnt, 4) else (⟨(rNum 1 l 0).1, min (rVar (rNum 1 l 0).2.1 (rNum 1 l 0).2.2).1 2147483648, (pOp (rVar (rNum 1 l 0).2.1 (rNum 1 l 0).2.2).2.1).1⟩, 0) := rfl
  have hQ := rNum1_range l 0 HBY.out
  have hQL := rNum_range 1 l 0 HBY.out
  have hQS := rNum_suffix 1 l 0
  have HNUM := fun W g h => rd_Num 1 (.inl rfl) W g l 0 h 8 rfl
  generalize rNum 1 l 0 = q at hQ hQL hQS hp HNUM
  obtain ⟨k, x1⟩ := q
  simp only at hp hQ hQL hQS HNUM
  have hV := rVar_range x1.1 x1.2 hQL.2
  have hVS := (rVar_suffix x1.1 x1.2).trans hQS
  have HVR := fun W g h => rd_Varint W g x1.1 x1.2 h
  generalize rVar x1.1 x1.2 = q at hV hVS hp HVR
  obtain ⟨n, t, e⟩ := q
  simp only at hp hV hVS HVR
  have hVS2 := List.suffix_iff_eq_drop.1 hVS
  have hkw : wrap64 k = k := wrap64_in (by omega) (by omega)
  have HT := Aside0.mk hV.2.2.1
  have htl : t.length ≤ l.length := hVS.length_le
  have HTL := Aside0.mk htl
  have HS := Aside0.mk hVS2
  have HN := Aside0.mk (show 0 ≤ n ∧ n < 18446744073709551616 from ⟨hV.1, hV.2.1⟩)
  clear hQ hQL hQS hV hVS hVS2 htl
  go_enter Tryd.func60, Tryd.ntmps60
  go_upto_if 20 with (first
    | (go_at_call 24; go_loud (refine HREAD.mono ?_; rintro en w1 ⟨g, rfl, hge, hr, hbb⟩; have HR := Aside0.mk hr; have HBX := Aside0.mk ((hbb.block _ (by simp)).trans (blk_new w (.cells #[.int .i64 0, .int .i64 0, .int .i64 0, .string ⟨#[]⟩, .int .i64 0, .int .i64 0, .slice none 0 0] 38))); have HB := Aside0.mk ((below_alloc (Below.refl w.heap.size w) (.cells #[.int .i64 0, .int .i64 0, .int .i64 0, .string ⟨#[]⟩, .int .i64 0, .int .i64 0, .slice none 0 0] 38)).trans (hbb.mono (by simp))); have HGE : Aside0 (w.heap.size < g) := ⟨by have h : w.heap.size + 1 ≤ g := (by simpa using hge); omega⟩; clear hr hbb hge HREAD))
    | (go_at_call 25; refine (HNUM _ g HR.out).mono ?_; rintro en w2 ⟨rfl, hr, hg⟩; have HR2 := Aside0.mk hr; have HBX2 := Aside0.mk (blk_grown HBX.out hg (fun q => by have := HGE.out; have := Option.some.inj q; omega)); have HB2 := Aside0.mk (below_grownG HB.out hg (Nat.le_of_lt HGE.out)); clear hr hg)
    | (go_at_call 59; refine (HVR _ g HR2.out).mono ?_; rintro en w3 ⟨rfl, hr, hg⟩; have HR3 := Aside0.mk hr; have HBX3 := Aside0.mk (blk_grown HBX2.out hg (fun q => by have := HGE.out; have := Option.some.inj q; omega)); have HB3 := Aside0.mk (below_grownG HB2.out hg (Nat.le_of_lt HGE.out)); clear hr hg)
    | (go_at_call 54; refine (rd_Err _ g t e HR3.out).mono ?_; rintro en w4 ⟨rfl, rfl⟩))
  by_cases he : e = 0
  · subst he
    rw [if_neg (by simp)] at hp
    have HPO := Aside0.mk hp
    clear hp HNUM HVR
    have HPAR := Aside0.mk (fun W A2 c2 h1 h2 h3 => item_Parse W A2 c2 t h1 h2 h3 HT.out (Nat.lt_of_le_of_lt HTL.out HL.out))
    generalize pOp t = q at HPO HPAR
    obtain ⟨o, eo⟩ := q
    simp only at HPO HPAR
    obtain ⟨m, hm⟩ : ∃ m, m = l.length - t.length := ⟨_, rfl⟩
    have hlm : l.length - m = t.length := by have := HTL.out; omega
    obtain ⟨A', hcut, hAC, hcap, _⟩ := bytes_drop .i64 A c l m (by omega) HCC.out
    have hdm : l.drop m = t := by rw [hm]; exact HS.out.symm
    rw [hdm] at hAC hcap
    rw [hlm] at hcut
    have hwm : wrap64 ((l.length : Int) - (t.length : Int)) = (m : Int) := by have := HL.out; rw [wrap64_in (by omega) (by omega)]; omega
    have HAC := Aside0.mk hAC
    have HCAP := Aside0.mk hcap
    clear hAC hcap hm hlm hdm
    by_cases heo : eo = 0
    · subst heo
      rw [if_neg (by simp)] at HPO
      have hmw : wrap64 (min n 2147483648) = min n 2147483648 := by have := HN.out; rw [wrap64_in (by omega) (by omega)]
      go_upto_region 10 with (first
        | (go_at_call 57; refine (rd_Left _ g t 0 HR3.out).mono ?_; rintro en w4 ⟨rfl, rfl⟩)
        | (go_at_call 88; refine (HPAR.out _ A' _ (HG.out.keep HB3.out HG.out.lt) (HAC.out _ (Kd.C_below HC.out HB3.out)) HCAP.out).mono ?_; rintro en w4 ⟨v, rfl, hv, hb⟩; obtain ⟨A1, c1, e1⟩ := Kd.R_slice hv; subst e1; have HRV := Aside0.mk hv; have HB4 := Aside0.mk (HB3.out.trans (hb.mono HB3.out.size)); have HBX4 := Aside0.mk (blk_below HBX3.out hb); clear hv hb))
      have HBX6 := Aside0.mk (blk_alloc (blk_alloc HBX4.out (.cells #[.int .i64 o.f0, .string o.f1, .int .i64 o.f2, .int .i64 o.f3, .slice A1 o.f4.length c1] 36)) (.cells #[.int .i64 k, .int .i64 (min n 2147483648), .int .i64 o.f0, .string o.f1, .int .i64 o.f2, .int .i64 o.f3, .slice A1 o.f4.length c1] 38))
      have hq := blk_new (w4.alloc (.cells #[.int .i64 o.f0, .string o.f1, .int .i64 o.f2, .int .i64 o.f3, .slice A1 o.f4.length c1] 36)) (.cells #[.int .i64 k, .int .i64 (min n 2147483648), .int .i64 o.f0, .string o.f1, .int .i64 o.f2, .int .i64 o.f3, .slice A1 o.f4.length c1] 38)
      rw [World.size_alloc] at hq
      have HBq := Aside0.mk hq
      have HB6 := Aside0.mk (below_alloc (below_alloc HB4.out (.cells #[.int .i64 o.f0, .string o.f1, .int .i64 o.f2, .int .i64 o.f3, .slice A1 o.f4.length c1] 36)) (.cells #[.int .i64 k, .int .i64 (min n 2147483648), .int .i64 o.f0, .string o.f1, .int .i64 o.f2, .int .i64 o.f3, .slice A1 o.f4.length c1] 38))
      have HR6 := Aside0.mk (Kd.R_lower (Kd.R_alloc (Kd.R_alloc HRV.out (.cells #[.int .i64 o.f0, .string o.f1, .int .i64 o.f2, .int .i64 o.f3, .slice A1 o.f4.length c1] 36)) (.cells #[.int .i64 k, .int .i64 (min n 2147483648), .int .i64 o.f0, .string o.f1, .int .i64 o.f2, .int .i64 o.f3, .slice A1 o.f4.length c1] 38)) HB3.out.size)
      clear hq HRV HBX4 HB4
      generalize (w4.alloc (.cells #[.int .i64 o.f0, .string o.f1, .int .i64 o.f2, .int .i64 o.f3, .slice A1 o.f4.length c1] 36)).alloc (.cells #[.int .i64 k, .int .i64 (min n 2147483648), .int .i64 o.f0, .string o.f1, .int .i64 o.f2, .int .i64 o.f3, .slice A1 o.f4.length c1] 38) = W6 at *
      obtain ⟨_, hn1, hr1⟩ := Kd.R_reads' HR6.out
      have HCK := Aside0.mk (entry_Check W6 A1 c1 ⟨k, min n 2147483648, o⟩ (HG.out.keep HB6.out HG.out.lt) hr1 hn1)
      clear hn1 hr1
      obtain ⟨⟨d0, d1, d2, d3, d4, d5, d6⟩, _⟩ := box7 HBq.out
      have hE : entE (⟨k, min n 2147483648, o⟩ : Ent) = if entOk (⟨k, min n 2147483648, o⟩ : Ent) then 0 else 2 := rfl
      cases hok : entOk (⟨k, min n 2147483648, o⟩ : Ent)
      · rw [hok] at hE
        simp only [Bool.false_eq_true, if_false] at hE
        rw [hE] at HCK HPO
        have HPO2 := Aside0.mk (HPO.out.trans (if_pos (by decide)))
        clear HPO hE hok
        go_upto_region 11 with (first | (go_at_call 41; refine HCK.out.mono ?_; rintro en w7 ⟨rfl, hb⟩; have HBX7 := Aside0.mk (blk_below HBX6.out hb); have HB7 := Aside0.mk (HB6.out.trans (hb.mono HB6.out.size)); clear hb))
        obtain ⟨⟨y0, y1, y2, y3, y4, y5, y6⟩, ⟨f0, f1, f2, f3, f4, f5, f6⟩⟩ := box7 HBX7.out
        go_wp2_with fail
        refine bodyPost_ret (ret_ent (x := zEnt) (put7_box HBX7.out _ _ _ _ _ _ _) rfl rfl) rfl ⟨.slice none 0 0, ?_, ?_, below_grownG HB7.out (put7_grown _ _ _ _ _ _ _ _ _) (Nat.le_refl _)⟩
        · rw [HPO2.out]
        · rw [HPO2.out]; exact Kd.R_nil _ _ _ _ _
      · rw [hok] at hE
        simp only [if_true] at hE
        rw [hE] at HCK HPO
        have HPO2 := Aside0.mk (HPO.out.trans (if_neg (by simp)))
        clear HPO hE hok
        go_upto_region 12 with (first | (go_at_call 41; refine HCK.out.mono ?_; rintro en w7 ⟨rfl, hb⟩; have HBX7 := Aside0.mk (blk_below HBX6.out hb); have HBq7 := Aside0.mk (blk_below HBq.out hb); have HR7 := Aside0.mk (Kd.R_below HR6.out hb); have HB7 := Aside0.mk (HB6.out.trans (hb.mono HB6.out.size)); clear hb))
        clear d0 d1 d2 d3 d4 d5 d6
        obtain ⟨⟨d0, d1, d2, d3, d4, d5, d6⟩, _⟩ := box7 HBq7.out
        obtain ⟨⟨y0, y1, y2, y3, y4, y5, y6⟩, ⟨f0, f1, f2, f3, f4, f5, f6⟩⟩ := box7 HBX7.out
        go_wp2_with fail
        refine bodyPost_ret (ret_ent (x := ⟨k, min n 2147483648, o⟩) (put7_box HBX7.out _ _ _ _ _ _ _) rfl rfl) rfl ⟨.slice A1 o.f4.length c1, ?_, ?_, below_grownG HB7.out (put7_grown _ _ _ _ _ _ _ _ _) (Nat.le_refl _)⟩
        · rw [HPO2.out]
        · rw [HPO2.out]
          have hne : ∀ j, some j = (Value.slice A1 o.f4.length c1).ownBlock → j ≠ w.heap.size := fun j hj e => by
            obtain ⟨cl, hcl⟩ := Kd.R_typed HR7.out j hj.symm
            exact blk_ne hcl HBX7.out (by decide) e
          exact Kd.R_mono (Kd.R_grown (row := some w.heap.size) (Kd.R_mono (Kd.R_tight rfl HR7.out) (fun j hj => hne j hj)) (put7_grown _ _ _ _ _ _ _ _ _) (fun j hj e => hj (Option.some.inj e))) (fun _ _ => trivial)
    · have hz : (eo != 0) = true := by rw [bne_iff_ne]; exact heo
      have HPO2 := Aside0.mk (HPO.out.trans (if_pos heo))
      clear heo HPO
      go_upto_region 8 with (first
        | (go_at_call 57; refine (rd_Left _ g t 0 HR3.out).mono ?_; rintro en w4 ⟨rfl, rfl⟩)
        | (go_at_call 88; refine (HPAR.out _ A' _ (HG.out.keep HB3.out HG.out.lt) (HAC.out _ (Kd.C_below HC.out HB3.out)) HCAP.out).mono ?_; rintro en w4 ⟨v, rfl, hv, hb⟩; obtain ⟨A1, c1, e1⟩ := Kd.R_slice hv; subst e1; have HRV := Aside0.mk hv; have HB4 := Aside0.mk (HB3.out.trans (hb.mono HB3.out.size)); have HBX4 := Aside0.mk (blk_below HBX3.out hb); clear hv hb))
      have HBX5 := Aside0.mk (blk_alloc HBX4.out (.cells #[.int .i64 o.f0, .string o.f1, .int .i64 o.f2, .int .i64 o.f3, .slice A1 o.f4.length c1] 36))
      have HB5 := Aside0.mk (below_alloc HB4.out (.cells #[.int .i64 o.f0, .string o.f1, .int .i64 o.f2, .int .i64 o.f3, .slice A1 o.f4.length c1] 36))
      obtain ⟨⟨y0, y1, y2, y3, y4, y5, y6⟩, ⟨f0, f1, f2, f3, f4, f5, f6⟩⟩ := box7 HBX5.out
      go_wp2_with fail
      refine bodyPost_ret (ret_ent (x := zEnt) (put7_box HBX5.out _ _ _ _ _ _ _) rfl rfl) rfl ⟨.slice none 0 0, ?_, ?_, below_grownG HB5.out (put7_grown _ _ _ _ _ _ _ _ _) (Nat.le_refl _)⟩
      · rw [HPO2.out]
      · rw [HPO2.out]; exact Kd.R_nil _ _ _ _ _
  · rw [if_pos he] at hp
    have HPO := Aside0.mk hp
    have hz : (e != 0) = true := by rw [bne_iff_ne]; exact he
    clear hp he
    obtain ⟨⟨y0, y1, y2, y3, y4, y5, y6⟩, ⟨f0, f1, f2, f3, f4, f5, f6⟩⟩ := box7 HBX3.out
    go_wp2_with fail
    refine bodyPost_ret (ret_ent (x := zEnt) (put7_box HBX3.out _ _ _ _ _ _ _) rfl rfl) rfl ⟨.slice none 0 0, ?_, ?_, below_grownG HB3.out (put7_grown _ _ _ _ _ _ _ _ _) (Nat.le_refl _)⟩
    · rw [HPO.out]
    · rw [HPO.out]; exact Kd.R_nil _ _ _ _ _
end Go.Proofs.YtmeblifbkhpdnaaDoor.K
namespace Go.Proofs.YtmeblifbkhpdnaaDoor.K
set_option linter.unusedVariables false
set_option linter.unusedSimpArgs false
open Go.RowKit Go.Proofs.YtmeblifbkhpdnaaDoorW.PrintWords Go.Proofs.YtmeblifbkhpdnaaDoorW.PrintLast Go.Proofs.YtmeblifbkhpdnaaDoorW.PrintMore
def entT (x : Ent) : List Int := vEnc (entB x).length ++ entB x
def rowB (l : List Ent) : List Int := vEnc l.length ++ l.flatMap entT
def rowR (l : List Ent) : List Int := if l.all entOk then rowB l else []
def rowE (l : List Ent) : Int := if l.all entOk then 0 else 2
theorem entT_len (x : Ent) (h : entOk x = true) (hw : I64 x.f2.f3) : (entT x).length ≤ 182 := by
  have h1 := entB_len x h hw
  have h2 := vEnc_ten (entB x).length (by omega)
  unfold entT
  rw [List.length_append]
  omega
theorem takeE_snoc (l : List Ent) (k : Nat) (h : k < l.length) : l.take (k + 1) = l.take k ++ [l[k]] := by
  rw [List.take_succ_eq_append_getElem h]
theorem rd_E_at (l : List Ent) (k : Nat) (h : k < l.length) : rd_T38 l (k : Int) = l[k] := by
  simp [rd_T38, List.getElem?_eq_getElem h, List.getD_eq_getElem?_getD]
theorem all_bad (l : List Ent) (k : Nat) (h : k < l.length) (hb : entOk l[k] = false) : l.all entOk = false := by
  rw [List.all_eq_false]
  exact ⟨l[k], List.getElem_mem h, by simp [hb]⟩
theorem ent_at {w wr : World} {A : Option Addr} {l : List Ent} (h : kEnt.C w A l.length l) (hb : Below w.heap.size w wr) (k : Nat) (hk : k < l.length) :
    ∃ ad A6 c6, A = some ad ∧ (wr.cell? (ad.add (k * 7)) = some (.int .i64 l[k].f0) ∧ wr.cell? ⟨(ad.add (k * 7)).block, (ad.add (k * 7)).off + 1, none⟩ = some (.int .i64 l[k].f1) ∧ wr.cell? ⟨(ad.add (k * 7)).block, (ad.add (k * 7)).off + 2, none⟩ = some (.int .i64 l[k].f2.f0) ∧ wr.cell? ⟨(ad.add (k * 7)).block, (ad.add (k * 7)).off + 3, none⟩ = some (.string l[k].f2.f1) ∧ wr.cell? ⟨(ad.add (k * 7)).block, (ad.add (k * 7)).off + 4, none⟩ = some (.int .i64 l[k].f2.f2) ∧ wr.cell? ⟨(ad.add (k * 7)).block, (ad.add (k * 7)).off + 5, none⟩ = some (.int .i64 l[k].f2.f3) ∧ wr.cell? ⟨(ad.add (k * 7)).block, (ad.add (k * 7)).off + 6, none⟩ = some (.slice A6 l[k].f2.f4.length c6)) ∧ l[k].f2.f4.length ≤ c6 ∧ kLine.C wr A6 l[k].f2.f4.length l[k].f2.f4 := by
  obtain ⟨ad, A6, c6, e1, h0, h1, h2, h3, h4, h5, h6, h7, h8⟩ := at_T38 h (k : Int) (by omega) (by omega)
  rw [rd_E_at l k hk] at h0 h1 h2 h3 h4 h5 h6 h7 h8
  rw [Int.toNat_natCast] at h0 h1 h2 h3 h4 h5 h6
  exact ⟨ad, A6, c6, e1, ⟨(hb.cell (cell_blk h0)).trans h0, (hb.cell (cell_blk h1)).trans h1, (hb.cell (cell_blk h2)).trans h2, (hb.cell (cell_blk h3)).trans h3, (hb.cell (cell_blk h4)).trans h4, (hb.cell (cell_blk h5)).trans h5, (hb.cell (cell_blk h6)).trans h6⟩, h7, Kd.C_below h8 hb⟩
set_option maxRecDepth 20000 in
set_option maxHeartbeats 4000000 in
theorem entry_each (w : World) (A : Option Addr) (c : Nat) (l : List Ent) (hG : GItem w) (hA : kEnt.C w A l.length l) (hc : l.length ≤ c) (hw : ∀ x ∈ l, I64 x.f2.f3) (hl : l.length < 4294967296) :
    Calls Tryd.prog 76 #[.slice A l.length c, .func (.func 35) #[] #[]] w fun en w' => ∃ v, en = .returned (.tuple #[v, .int .i64 (rowE l)]) ∧ Kd.R (Kd.int .u8) 5 w' w.heap.size (fun _ => True) v (rowR l) ∧ Below w.heap.size w w' := by
  have HG := Aside0.mk hG
  have HA := Aside0.mk hA
  have HI := Aside0.mk hw
  have HL := Aside0.mk hl
  have hwl := wrap_u64_nat l.length (by omega)
  have HV := Aside0.mk (bits_Varint w none 0 [] l.length (Kd.C_nil _ _) (Nat.le_refl _) (by simp) (by omega))
  have HVL := Aside0.mk (vEnc_ten l.length (by omega))
  have hlm : l.length ≤ maxLen := hA.2.1
  have HLM := Aside0.mk hlm
  clear hG hA hw hl hlm
  go_enter Tryd.func76, Tryd.ntmps76
  go_wp2_with (first | (go_at_call 34; refine HV.out.mono ?_; rintro en w1 ⟨v, rfl, hv, hb⟩; have HO := Aside0.mk hv; have HB := Aside0.mk hb; clear hv hb))
  go_loopw [6, 17] (fun s6 v wr => ∃ (k : Nat) (row : List Int), k ≤ l.length ∧ v = .int .i64 k ∧ Aside0 (row = vEnc l.length ++ (l.take k).flatMap entT) ∧ Aside0 (row.length ≤ 10 + 182 * k) ∧ Aside0 ((l.take k).all entOk = true) ∧ Aside0 (Kd.R (Kd.int .u8) 5 wr w.heap.size (fun _ => True) s6 row) ∧ Aside0 (Below w.heap.size w wr)) (fun _ v _ => l.length - (intOf v).toNat)
  case atStart => exact ⟨0, _, by omega, rfl, ⟨by simp⟩, ⟨by have := HVL.out; simpa using this⟩, ⟨rfl⟩, HO, HB⟩
  case round =>
    clear HO HB HV
    obtain ⟨k, row, hk, rfl, HRW, HRL, HAL, HO, HB⟩ := hrel
    by_cases hlt : k < l.length
    · have hb : decide ((k : Int) < (l.length : Int)) = true := by simp; omega
      obtain ⟨ad, A6, c6, e1, ⟨h0, h1, h2, h3, h4, h5, h6⟩, hc6, hC6⟩ := ent_at HA.out HB.out k hlt
      cases e1
      have HT := Aside0.mk (takeE_snoc l k hlt)
      have HBAD := Aside0.mk (all_bad l k hlt)
      have HIx := Aside0.mk (HI.out l[k] (List.getElem_mem hlt))
      generalize l[k] = x at *
      have HC6 := Aside0.mk hC6
      have HCC6 := Aside0.mk hc6
      have HBT := Aside0.mk (fun W (hb : Below wr.heap.size wr W) => entry_Bytes W A6 c6 x (HG.out.keep (HB.out.trans (hb.mono HB.out.size)) HG.out.lt) (Kd.C_below HC6.out hb) HCC6.out HIx.out)
      clear hC6 hc6
      go_upto_if 28 with (first | (go_at_call 35; refine (HBT.out _ (below_alloc (Below.refl _ _) _)).mono ?_; rintro en w2 ⟨v, rfl, hv, hb⟩; have HOx := Aside0.mk hv; have HB2 := Aside0.mk ((below_alloc (Below.refl _ _) _).trans (hb.mono (by simp))); clear hv hb))
      have hE : entE x = if entOk x then 0 else 2 := rfl
      have hR : entR x = if entOk x then entB x else [] := rfl
      cases hok : entOk x
      · rw [hok] at hE
        simp only [Bool.false_eq_true, if_false] at hE
        have hz : (entE x != 0) = true := by rw [hE]; rfl
        have HE := Aside0.mk hE
        have HBD := Aside0.mk (HBAD.out hok)
        clear hE hR hok
        go_wp2_with fail
        go_ret2
        exact ⟨.slice none 0 0, by unfold rowE; rw [HBD.out, HE.out]; rfl, by unfold rowR; rw [HBD.out]; exact Kd.R_nil _ _ _ _ _, HB.out.trans (HB2.out.mono HB.out.size)⟩
      · rw [hok] at hE hR
        simp only [if_true] at hE hR
        have hz : (entE x != 0) = false := by rw [hE]; rfl
        rw [hR] at HOx
        have HXL := Aside0.mk (entT_len x hok HIx.out)
        have HXB := Aside0.mk (entB_len x hok HIx.out)
        obtain ⟨A1, c1, e1, hc1, hr1⟩ := R_C (Kd.R_below HO.out HB2.out)
        cases e1
        obtain ⟨A2, c2, e2, hc2, hr2⟩ := R_C HOx.out
        cases e2
        have hrl : row.length + (entB x).length + 10 < 140737488355328 := by
          have h1 := HRL.out
          have h2 := HL.out
          have h3 := HXB.out
          omega
        have HTX := Aside0.mk (bits_Text w2 A1 c1 row A2 c2 (entB x) hr1 hc1 hr2 hc2 hrl)
        have HOK := Aside0.mk hok
        have HB2' := Aside0.mk (HB.out.trans (HB2.out.mono HB.out.size))
        clear hE hR hok hr1 hc1 hr2 hc2 hrl HO HOx
        go_wp2_with (first | (go_at_call 37; refine HTX.out.mono ?_; rintro en w3 ⟨v3, rfl, hv, hb⟩; have HO3 := Aside0.mk (Kd.R_lower hv HB2'.out.size); have HB3 := Aside0.mk (HB2'.out.trans (hb.mono HB2'.out.size)); clear hv hb))
        have hwk := wrap_next l.length k hlt HLM.out
        go_roundw
        case rel =>
          have e : row ++ (vEnc (entB x).length ++ entB x) = vEnc l.length ++ (l.take (k + 1)).flatMap entT := by
            rw [HRW.out, HT.out, List.flatMap_append]
            simp [entT, List.append_assoc]
          refine ⟨k + 1, _, by omega, by rw [hwk], ⟨e⟩, ⟨?_⟩, ⟨?_⟩, HO3, HB3⟩
          · have h1 := HRL.out
            have h2 := HXL.out
            unfold entT at h2
            rw [List.length_append]
            omega
          · rw [HT.out, List.all_append, HAL.out]
            simp [HOK.out]
        case measure => exact meas_step l.length k hlt hwk
    · have hb : decide ((k : Int) < (l.length : Int)) = false := by simp; omega
      obtain rfl : k = l.length := by omega
      have hall := HAL.out
      rw [List.take_length] at hall
      have HALL := Aside0.mk hall
      clear hall
      go_wp2_with fail
      go_ret2
      refine ⟨_, by unfold rowE; rw [HALL.out]; rfl, ?_, HB.out⟩
      have h := HO.out
      rw [HRW.out, List.take_length] at h
      unfold rowR
      rw [HALL.out]
      exact h
set_option maxRecDepth 20000 in
set_option maxHeartbeats 4000000 in
theorem entry_Row (w : World) (A : Option Addr) (c : Nat) (l : List Ent) (hG : GItem w) (hA : kEnt.C w A l.length l) (hc : l.length ≤ c) (hw : ∀ x ∈ l, I64 x.f2.f3) (hl : l.length < 4294967296) :
    Calls Tryd.prog 36 #[.slice A l.length c] w fun en w' => ∃ v, en = .returned (.tuple #[v, .int .i64 (rowE l)]) ∧ Kd.R (Kd.int .u8) 5 w' w.heap.size (fun _ => True) v (rowR l) ∧ Below w.heap.size w w' := by
  have HE := Aside0.mk (entry_each w A c l hG hA hc hw hl)
  clear hG hA hc hw hl
  go_enter Tryd.func36, Tryd.ntmps36
  go_wp2_with (first | (go_at_call 76; refine HE.out.mono ?_; rintro en w1 ⟨v, rfl, hv, hb⟩; have HO := Aside0.mk hv; have HB := Aside0.mk hb; clear hv hb))
  go_ret2
  exact ⟨_, rfl, HO.out, HB.out⟩
end Go.Proofs.YtmeblifbkhpdnaaDoor.K
namespace Go.Proofs.YtmeblifbkhpdnaaDoor.K
set_option linter.unusedVariables false
set_option linter.unusedSimpArgs false
open Go.RowKit Go.Proofs.YtmeblifbkhpdnaaDoorW.PrintWords Go.Proofs.YtmeblifbkhpdnaaDoorW.PrintLast Go.Proofs.YtmeblifbkhpdnaaDoorW.PrintMore
theorem vr_lt : ∀ (t : List Int) (i : Nat) (u : Int), (vr i u t).2.2 = 0 → (vr i u t).2.1.length < t.length
  | [], i, u, h => by simp [vr] at h
  | c :: t, i, u, h => by
    rw [vr] at h ⊢
    split at h
    · simp at h
    · split at h
      · simp at h
      · split at h
        · rename_i h1 h2 h3
          rw [if_neg h1, if_neg h2, if_pos h3]
          simp
        · rename_i h1 h2 h3
          rw [if_neg h1, if_neg h2, if_neg h3]
          have := vr_lt t _ _ h
          simp only [List.length_cons]
          omega
theorem rText_lt (l : List Int) (e : Int) (h : (rText l e).2.2 = 0) : (rText l e).2.1.length < l.length := by
  unfold rText at h ⊢
  split at h
  · rename_i h1
    exact absurd h h1
  · rename_i h1
    split at h
    · simp at h
    · rename_i h2
      rw [if_neg h1, if_neg h2]
      have h3 : (rVar l e).2.1.length < l.length := by
        unfold rVar at h1 ⊢
        split
        · rename_i h4
          rw [if_pos h4] at h1
          exact absurd h4 h1
        · rename_i h4
          rw [if_neg h4] at h1
          exact vr_lt l 0 0 (by simpa using h1)
      simp only [List.length_drop]
      omega
theorem rText_val (l : List Int) (e : Int) (hb : CrcMath.Bytes l) : (rText l e).1.length ≤ l.length ∧ CrcMath.Bytes (rText l e).1 := by
  have h := rVar_range l e hb
  unfold rText
  split
  · exact ⟨by simp, bytes_nil⟩
  · split
    · exact ⟨by simp, bytes_nil⟩
    · exact ⟨by rw [List.length_take]; have := h.2.2.2; omega, fun z hz => h.2.2.1 z (List.mem_of_mem_take hz)⟩
def pRowsN : Nat → List Int × Int → List Ent → List Ent × Int × List Int × Int
  | 0, x, acc => (acc, 0, x)
  | n + 1, x, acc => if (rText x.1 x.2).2.2 ≠ 0 then ([], (rText x.1 x.2).2.2, (rText x.1 x.2).2) else if (pEnt (rText x.1 x.2).1).2 ≠ 0 then ([], (pEnt (rText x.1 x.2).1).2, (rText x.1 x.2).2) else pRowsN n (rText x.1 x.2).2 (acc ++ [(pEnt (rText x.1 x.2).1).1])
def pRows (l : List Int) : List Ent × Int :=
  if (pRowsN (rVar l 0).1.toNat (rVar l 0).2 []).2.1 ≠ 0 then ([], (pRowsN (rVar l 0).1.toNat (rVar l 0).2 []).2.1) else
  if rEnd (pRowsN (rVar l 0).1.toNat (rVar l 0).2 []).2.2.1 (pRowsN (rVar l 0).1.toNat (rVar l 0).2 []).2.2.2 ≠ 0 then ([], rEnd (pRowsN (rVar l 0).1.toNat (rVar l 0).2 []).2.2.1 (pRowsN (rVar l 0).1.toNat (rVar l 0).2 []).2.2.2) else
  ((pRowsN (rVar l 0).1.toNat (rVar l 0).2 []).1, 0)
theorem Rd.app {W W' : World} {g : Nat} {l : List Int} {e : Int} (h : Rd W g l e) {α : Type} {d : Kd α} {e' base : Nat} {ok : Nat → Prop} {u : Value} {xs : List α} (hR : d.R e' W base ok u xs) (hok : ∀ j, ok j → j ≠ g) (ht : 5 ≠ e') (hgr : W.grownBy W' u.ownBlock) : Rd W' g l e := by
  cases ho : u.ownBlock with
  | none =>
    rw [ho] at hgr
    exact h.below (grown_none hgr)
  | some q =>
    rw [ho] at hgr
    obtain ⟨cl, hc⟩ := Kd.R_typed hR q ho
    exact h.keep hgr (hok q (hR.1 q ho)) hc ht
theorem infoEnt : (Tryd.prog.info? 38).map (fun i => (i.zero, i.size, i.bytes)) = some (some (.agg #[(.int .i64 0), (.int .i64 0), (.int .i64 0), (.string ⟨#[]⟩), (.int .i64 0), (.int .i64 0), (.slice none 0 0)]), 7, 80) := by kernel_rfl
set_option maxRecDepth 20000 in
set_option maxHeartbeats 4000000 in
theorem entry_Rows (w : World) (A : Option Addr) (c : Nat) (l : List Int) (hG : GItem w) (hC : Kd.C (Kd.int .u8) w A l.length l) (hc : l.length ≤ c) (hb : CrcMath.Bytes l) (hl : l.length < 1099511627776) :
    Calls Tryd.prog 61 #[.slice A l.length c] w fun en w' => ∃ v, en = .returned (.tuple #[v, .int .i64 (pRows l).2]) ∧ Kd.R kEnt 38 w' w.heap.size (fun _ => True) v (pRows l).1 ∧ Below w.heap.size w w' := by
  have HG := Aside0.mk hG
  have HBY := Aside0.mk hb
  have HL := Aside0.mk hl
  have HREAD := Aside0.mk (bits_Read w A c l hC hc hb (by omega))
  have hV := rVar_range l 0 hb
  have hp : pRows l = if (pRowsN (rVar l 0).1.toNat (rVar l 0).2 []).2.1 ≠ 0 then ([], (pRowsN (rVar l 0).1.toNat (rVar l 0).2 []).2.1) else
    if rEnd (pRowsN (rVar l 0).1.toNat (rVar l 0).2 []).2.2.1 (pRowsN (rVar l 0).1.toNat (rVar l 0).2 []).2.2.2 ≠ 0 then ([], rEnd (pRowsN (rVar l 0).1.toNat (rVar l 0).2 []).2.2.1 (pRowsN (rVar l 0).1.toNat (rVar l 0).2 []).2.2.2) else
    ((pRowsN (rVar l 0).1.toNat (rVar l 0).2 []).1, 0) := rfl
  have HVR := fun W g h => rd_Varint W g l 0 h
  generalize rVar l 0 = q at hp hV HVR
  obtain ⟨n, x1⟩ := q
  simp only at hp hV HVR
  obtain ⟨n, rfl⟩ := Int.eq_ofNat_of_zero_le hV.1
  rw [Int.toNat_natCast] at hp
  have HXL := Aside0.mk hV.2.2
  have HN := Aside0.mk hV.2.1
  generalize hq : pRowsN n x1 [] = q at hp
  obtain ⟨res, er, y, ey⟩ := q
  simp only at hp
  have HP := Aside0.mk hp
  have HQ := Aside0.mk hq
  clear hG hC hc hb hl hV hp hq
  go_enter Tryd.func61, Tryd.ntmps61
  go_wp2_with (first
    | (go_at_call 24; refine HREAD.out.mono ?_; rintro en w1 ⟨g, rfl, hge, hr, hbb⟩; have HR := Aside0.mk hr; have HB := Aside0.mk hbb; have HGE := Aside0.mk hge; clear hr hbb hge HREAD)
    | (go_at_call 59; refine (HVR _ g HR.out).mono ?_; rintro en w3 ⟨rfl, hr, hg⟩; have HR3 := Aside0.mk hr; have HB3 := Aside0.mk (below_grownG HB.out hg HGE.out); clear hr hg))
  go_loopw [2, 5] (fun s2 v wr => ∃ (m : Nat) (acc : List Ent) (x : List Int × Int), v = .int .u64 (m : Int) ∧ Aside0 (m ≤ n) ∧ Aside0 (pRowsN m x acc = (res, er, y, ey)) ∧ Aside0 (Rd wr g x.1 x.2) ∧ Aside0 (acc.length + x.1.length ≤ l.length) ∧ Aside0 (Kd.R kEnt 38 wr w.heap.size (fun j => j ≠ g) s2 acc) ∧ Aside0 (Below w.heap.size w wr)) (fun _ v _ => (intOf v).toNat)
  case atStart => exact ⟨n, [], x1, rfl, ⟨Nat.le_refl _⟩, HQ, HR3, ⟨by have := HXL.out.2; simpa using this⟩, ⟨Kd.R_nil _ _ _ _ _⟩, HB3⟩
  case round =>
    clear HR HB HR3 HB3 HVR
    obtain ⟨m, acc, x, rfl, HMN, HPN, HR, HLN, HO, HB⟩ := hrel
    cases m with
    | zero =>
      have h := HPN.out
      rw [pRowsN] at h
      obtain ⟨hh1, hh2⟩ := Prod.mk.inj h
      obtain ⟨hh2, hh3⟩ := Prod.mk.inj hh2
      subst hh1 hh2 hh3
      have hb : decide ((0 : Int) < ((0 : Nat) : Int)) = false := by simp
      have hend := rd_End wr g y ey HR.out
      have hpo := HP.out
      rw [if_neg (by simp)] at hpo
      clear h HPN HQ
      by_cases he : rEnd y ey = 0
      · rw [he] at hend
        rw [if_neg (by simpa using he)] at hpo
        have HPO := Aside0.mk hpo
        clear he hpo
        go_wp2_with (first | (go_at_call 63; refine hend.mono ?_; rintro en w4 ⟨rfl, rfl⟩))
        go_ret2
        exact ⟨_, by rw [HPO.out]; rfl, by rw [HPO.out]; exact Kd.R_mono HO.out (fun _ _ => trivial), HB.out⟩
      · rw [if_pos he] at hpo
        have hz : (rEnd y ey != 0) = true := by rw [bne_iff_ne]; exact he
        have HPO := Aside0.mk hpo
        clear he hpo
        generalize rEnd y ey = z at *
        go_wp2_with (first | (go_at_call 63; refine hend.mono ?_; rintro en w4 ⟨rfl, rfl⟩))
        go_ret2
        exact ⟨.slice none 0 0, by rw [HPO.out]; rfl, by rw [HPO.out]; exact Kd.R_nil _ _ _ _ _, HB.out⟩
    | succ m =>
      have hb : decide ((0 : Int) < ((m + 1 : Nat) : Int)) = true := decide_eq_true (by omega)
      have h := HPN.out
      rw [pRowsN] at h
      have HTL := Aside0.mk (rText_range x.1 x.2 HR.out.bytes)
      have HTV := Aside0.mk (rText_val x.1 x.2 HR.out.bytes)
      have HTT := Aside0.mk (rText_lt x.1 x.2)
      have HTX := Aside0.mk (rd_Text wr g x.1 x.2 HR.out (by have h1 := HLN.out; have h2 := HL.out; omega))
      generalize rText x.1 x.2 = q at h HTL HTV HTT HTX
      obtain ⟨tx, xa, ea⟩ := q
      simp only at h
      by_cases hea : ea = 0
      · subst hea
        rw [if_neg (by simp)] at h
        have HPAR := Aside0.mk (fun W A2 c2 h1 h2 h3 => entry_Parse W A2 c2 tx h1 h2 h3 HTV.out.2 (by have h1 : tx.length ≤ x.1.length := HTV.out.1; have h2 := HLN.out; have h3 := HL.out; omega))
        generalize pEnt tx = q at h HPAR
        obtain ⟨p, ep⟩ := q
        simp only at h
        by_cases hep : ep = 0
        · subst hep
          rw [if_neg (by simp)] at h
          have HN2 := Aside0.mk h
          have hwm : IntKind.u64.wrap (m : Int) = (m : Int) := wrap_u64_nat m (by have h1 := HMN.out; have h2 := HN.out; omega)
          have HWM := Aside0.mk hwm
          clear h HPN HQ hwm
          go_upto_region 12 with (first
            | (go_at_call 62; refine HTX.out.mono ?_; rintro en wt ⟨vt, rfl, hv, hr, hg⟩; obtain ⟨A1, c1, e1, hcc1, hr1⟩ := R_C hv; cases e1; have HRt := Aside0.mk hr; have HOt := Aside0.mk (Kd.R_grown HO.out hg (fun j hj q => hj (Option.some.inj q))); have HBt := Aside0.mk (below_grownG HB.out hg HGE.out); have HCt := Aside0.mk hr1; have HCCt := Aside0.mk hcc1; clear hv hr hg hr1 hcc1)
            | (go_at_call 54; refine (rd_Err wt g xa 0 HRt.out).mono ?_; rintro en w4 ⟨rfl, rfl⟩)
            | (go_at_call 60; refine (HPAR.out wt A1 c1 (HG.out.keep HBt.out HG.out.lt) HCt.out HCCt.out).mono ?_; rintro en w5 ⟨v5, rfl, hv, hb5⟩; obtain ⟨A5, c5, e5⟩ := Kd.R_slice hv; subst e5; have HV5 := Aside0.mk hv; have HW5 := Aside0.mk hb5; clear hv hb5))
          have HBa := Aside0.mk (below_alloc HW5.out (.cells (entC p (.slice A5 p.f2.f4.length c5)) 38))
          have HB5 := Aside0.mk (HBt.out.trans (HBa.out.mono HBt.out.size))
          have HR5 := Aside0.mk (HRt.out.below HBa.out)
          have HO6 := Aside0.mk (Kd.R_below HOt.out HBa.out)
          have HV6 := Aside0.mk (Kd.R_alloc (Kd.R_lower (Kd.R_mono (Kd.R_bound HV5.out) (ok' := fun j => wt.heap.size ≤ j) (fun j hj => hj.2.1)) HBt.out.size) (.cells (entC p (.slice A5 p.f2.f4.length c5)) 38))
          have hokp : ∀ j, wt.heap.size ≤ j → j ≠ g ∧ some j ≠ u2.ownBlock := fun j hj => ⟨fun e => by have := HRt.out.lt; omega, fun e => by have := Kd.R_lt HOt.out j e.symm; omega⟩
          have HOKP := Aside0.mk hokp
          have HGLT := Aside0.mk HR5.out.lt
          clear hokp HV5 HW5 HOt
          obtain ⟨W5, hW5⟩ : ∃ W5, W5 = w5.alloc (.cells (entC p (.slice A5 p.f2.f4.length c5)) 38) := ⟨_, rfl⟩
          have hsz : w5.heap.size + 1 = W5.heap.size := by rw [hW5, World.size_alloc]
          have hq := blk_new w5 (.cells (entC p (.slice A5 p.f2.f4.length c5)) 38)
          rw [← hW5] at HBa HB5 HR5 HO6 HV6 HGLT hq ⊢
          obtain ⟨⟨d0, d1, d2, d3, d4, d5, d6⟩, _⟩ := box7 hq
          clear hW5 hq
          go_wp2_with (first | ((with_reducible refine gate_builtin (b := .append) (xs := #[.tmp 34, .tmp 36]) rfl ?_); at_builtin; go_loud (refine Kd.R_append kEnt (w0 := w) w.heap.size rfl (.tmp 34) (.tmp 36) 39 38 (.agg #[(.int .i64 0), (.int .i64 0), (.int .i64 0), (.string ⟨#[]⟩), (.int .i64 0), (.int .i64 0), (.slice none 0 0)]) 80 rfl Tryd.underlying39 infoEnt rfl (by decide) (by omega) u2 acc p [.int .i64 p.f0, .int .i64 p.f1, .int .i64 p.f2.f0, .string p.f2.f1, .int .i64 p.f2.f2, .int .i64 p.f2.f3, .slice A5 p.f2.f4.length c5] (fun j => j ≠ g) (fun j => wt.heap.size ≤ j) rfl ?aX ?aP ?aK ?aF ?aO ?aB ?aS ?aL ?_; (case aX => first | rfl | (simp only [World.size_alloc]; rfl)); (case aP => exact k38_mkM _ _ _ p HV6.out); (case aK => exact HOKP.out); (case aB => exact HB5.out); (case aF => exact (fun j hj e => by have := HGLT.out; omega)); (case aO => exact HO6.out); (case aS => exact HB5.out.size); (case aL => (have h1 := HLN.out; have h2 := HL.out; have h3 : xa.length < x.1.length := HTT.out (by simp); omega)); intro v7 w7 hv hw hg7 hat7; have HR7 := Aside0.mk (HR5.out.app HO6.out (fun j hj => hj) (by decide) hg7); have HO7 := Aside0.mk hv; have HB7 := Aside0.mk hw; clear hv hw hg7 hat7)))
          rw [HWM.out]
          refine ⟨⟨m, acc ++ [p], (xa, 0), rfl, ⟨by have := HMN.out; omega⟩, HN2, HR7, ⟨?_⟩, HO7, HB7⟩, ?_⟩
          · have h1 := HLN.out
            have h3 : xa.length < x.1.length := HTT.out (by simp)
            simp only [List.length_append, List.length_cons, List.length_nil]
            omega
          · simp only [intOf]
            omega
        · rw [if_pos hep] at h
          obtain ⟨hh1, hh2⟩ := Prod.mk.inj h
          obtain ⟨hh2, hh3⟩ := Prod.mk.inj hh2
          subst hh1 hh2
          have hz : (ep != 0) = true := by rw [bne_iff_ne]; exact hep
          have hpo := HP.out
          rw [if_pos hep] at hpo
          have HPO := Aside0.mk hpo
          clear h HPN HQ hh3 hep hpo
          go_wp2_with (first
            | (go_at_call 62; refine HTX.out.mono ?_; rintro en wt ⟨vt, rfl, hv, hr, hg⟩; obtain ⟨A1, c1, e1, hcc1, hr1⟩ := R_C hv; cases e1; have HRt := Aside0.mk hr; have HBt := Aside0.mk (below_grownG HB.out hg HGE.out); have HCt := Aside0.mk hr1; have HCCt := Aside0.mk hcc1; clear hv hr hg hr1 hcc1)
            | (go_at_call 54; refine (rd_Err wt g xa 0 HRt.out).mono ?_; rintro en w4 ⟨rfl, rfl⟩)
            | (go_at_call 60; refine (HPAR.out wt A1 c1 (HG.out.keep HBt.out HG.out.lt) HCt.out HCCt.out).mono ?_; rintro en w5 ⟨v5, rfl, hv, hb5⟩; obtain ⟨A5, c5, e5⟩ := Kd.R_slice hv; subst e5; have HB5 := Aside0.mk (below_alloc (HBt.out.trans (hb5.mono HBt.out.size)) (.cells (entC p (.slice A5 p.f2.f4.length c5)) 38)); clear hv hb5))
          go_ret2
          exact ⟨.slice none 0 0, by rw [HPO.out]; rfl, by rw [HPO.out]; exact Kd.R_nil _ _ _ _ _, HB5.out⟩
      · rw [if_pos hea] at h
        obtain ⟨hh1, hh2⟩ := Prod.mk.inj h
        obtain ⟨hh2, hh3⟩ := Prod.mk.inj hh2
        subst hh1 hh2
        have hz : (ea != 0) = true := by rw [bne_iff_ne]; exact hea
        have hpo := HP.out
        rw [if_pos hea] at hpo
        have HPO := Aside0.mk hpo
        clear h HPN HQ hh3 hea hpo
        go_wp2_with (first
          | (go_at_call 62; refine HTX.out.mono ?_; rintro en wt ⟨vt, rfl, hv, hr, hg⟩; obtain ⟨A1, c1, e1, hcc1, hr1⟩ := R_C hv; cases e1; have HRt := Aside0.mk hr; have HBt := Aside0.mk (below_grownG HB.out hg HGE.out); clear hv hr hg hr1 hcc1)
          | (go_at_call 54; refine (rd_Err wt g xa ea HRt.out).mono ?_; rintro en w4 ⟨rfl, rfl⟩))
        go_ret2
        exact ⟨.slice none 0 0, by rw [HPO.out]; rfl, by rw [HPO.out]; exact Kd.R_nil _ _ _ _ _, HBt.out⟩
end Go.Proofs.YtmeblifbkhpdnaaDoor.K
namespace Go.Proofs.YtmeblifbkhpdnaaDoor.K
set_option linter.unusedVariables false
set_option linter.unusedSimpArgs false
open Go.RowKit Go.Proofs.YtmeblifbkhpdnaaDoorW.PrintWords Go.Proofs.YtmeblifbkhpdnaaDoorW.PrintLast Go.Proofs.YtmeblifbkhpdnaaDoorW.PrintMore
theorem eqBy_drop {α : Type} (f : α → α → Bool) (a b : List α) (k : Nat) (h1 : k < a.length) (h2 : k < b.length) : eqBy f (a.drop k) (b.drop k) = (f a[k] b[k] && eqBy f (a.drop (k + 1)) (b.drop (k + 1))) := by
  rw [List.drop_eq_getElem_cons h1, List.drop_eq_getElem_cons h2]
  rfl
set_option maxRecDepth 20000 in
set_option maxHeartbeats 4000000 in
theorem equalFunc (w : World) (A A' : Option Addr) (c c' : Nat) (a b : List Ent) (hA : kEnt.C w A a.length a) (hc : a.length ≤ c) (hA' : kEnt.C w A' b.length b) (hc' : b.length ≤ c') :
    Calls Tryd.prog 85 #[.slice A a.length c, .slice A' b.length c', .func (.func 42) #[] #[]] w fun en w' => en = .returned (.bool (eqBy sameEnt a b)) ∧ Below w.heap.size w w' := by
  have HA := Aside0.mk hA
  have HA' := Aside0.mk hA'
  have hlm : a.length ≤ maxLen := hA.2.1
  have HLM := Aside0.mk hlm
  clear hA hA' hlm
  by_cases hab : a.length = b.length
  · have hd : ((a.length : Int) != (b.length : Int)) = false := by rw [hab]; simp
    have HAB := Aside0.mk hab
    clear hab
    go_enter Tryd.func85, Tryd.ntmps85
    go_wp2_with fail
    go_loopw [17] (fun v wr => ∃ (k : Nat), k ≤ a.length ∧ v = .int .i64 k ∧ Aside0 (eqBy sameEnt (a.drop k) (b.drop k) = eqBy sameEnt a b) ∧ Aside0 (Below w.heap.size w wr)) (fun v _ => a.length - (intOf v).toNat)
    case atStart => exact ⟨0, by omega, rfl, ⟨rfl⟩, ⟨Below.refl _ _⟩⟩
    case round =>
      obtain ⟨k, hk, rfl, HE, HB⟩ := hrel
      by_cases hlt : k < a.length
      · have hlt2 : k < b.length := by have := HAB.out; omega
        have hb : decide ((k : Int) < (a.length : Int)) = true := by simp; omega
        obtain ⟨ad, A6, c6, e1, ⟨h0, h1, h2, h3, h4, h5, h6⟩, hc6, hC6⟩ := ent_at HA.out HB.out k hlt
        cases e1
        have hwa := below_alloc (Below.refl wr.heap.size wr) (.cells (entC a[k] (.slice A6 a[k].f2.f4.length c6)) 38)
        obtain ⟨bd, B6, d6, e1, ⟨g0, g1, g2, g3, g4, g5, g6⟩, hd6, hD6⟩ := ent_at HA'.out (HB.out.trans (hwa.mono HB.out.size)) k hlt2
        cases e1
        have hwb := hwa.trans ((below_alloc (Below.refl _ (wr.alloc (.cells (entC a[k] (.slice A6 a[k].f2.f4.length c6)) 38))) (.cells (entC b[k] (.slice B6 b[k].f2.f4.length d6)) 38)).mono hwa.size)
        have HWB := Aside0.mk hwb
        have HSM := Aside0.mk (entry_Same' ((wr.alloc (.cells (entC a[k] (.slice A6 a[k].f2.f4.length c6)) 38)).alloc (.cells (entC b[k] (.slice B6 b[k].f2.f4.length d6)) 38)) A6 B6 c6 d6 a[k] b[k] (Kd.C_below hC6 hwb) hc6 (Kd.C_alloc hD6 _) hd6)
        have HDR := Aside0.mk (HE.out.symm.trans (eqBy_drop sameEnt a b k hlt hlt2))
        clear hC6 hD6 hc6 hd6 hwa hwb HE
        have hq := cell_blk g0
        generalize hs : sameEnt a[k] b[k] = s at HSM HDR
        clear hs
        generalize a[k] = x at *
        generalize b[k] = y at *
        go_upto_if 30 with (first | (go_at_call 42; refine HSM.out.mono ?_; rintro en w2 ⟨rfl, hb⟩; have HB2 := Aside0.mk (HB.out.trans ((HWB.out.trans (hb.mono HWB.out.size)).mono HB.out.size)); clear hb))
        cases s
        · go_wp2_with fail
          go_ret
          exact ⟨by rw [HDR.out]; rfl, HB2.out⟩
        · have hwk := wrap_next a.length k hlt HLM.out
          go_wp2_with fail
          go_roundw
          case rel => exact ⟨k + 1, by omega, by rw [hwk], ⟨by rw [HDR.out]; rfl⟩, HB2⟩
          case measure => exact meas_step a.length k hlt hwk
      · have hb : decide ((k : Int) < (a.length : Int)) = false := by simp; omega
        obtain rfl : k = a.length := by omega
        go_wp2_with fail
        go_ret
        refine ⟨?_, HB.out⟩
        rw [← HE.out, List.drop_length, List.drop_of_length_le (by have := HAB.out; omega)]
        rfl
  · have hd : ((a.length : Int) != (b.length : Int)) = true := by rw [bne_iff_ne]; omega
    have HE := Aside0.mk (eqBy_len (f := sameEnt) hab)
    clear hab
    go_enter Tryd.func85, Tryd.ntmps85
    go_wp2_with fail
    go_ret
    exact ⟨by rw [HE.out]; rfl, Below.refl _ _⟩
theorem entry_SameRow (w : World) (A A' : Option Addr) (c c' : Nat) (a b : List Ent) (hA : kEnt.C w A a.length a) (hc : a.length ≤ c) (hA' : kEnt.C w A' b.length b) (hc' : b.length ≤ c') :
    Calls Tryd.prog 49 #[.slice A a.length c, .slice A' b.length c'] w fun en w' => en = .returned (.bool (eqBy sameEnt a b)) ∧ Below w.heap.size w w' := by
  have HE := Aside0.mk (equalFunc w A A' c c' a b hA hc hA' hc')
  clear hA hc hA' hc'
  go_enter Tryd.func49, Tryd.ntmps49
  go_wp2_with (first | (go_at_call 85; refine HE.out.mono ?_; rintro en w1 ⟨rfl, hb⟩; have HB := Aside0.mk hb; clear hb))
  go_ret
  exact ⟨rfl, HB.out⟩
end Go.Proofs.YtmeblifbkhpdnaaDoor.K
namespace Go.Proofs.YtmeblifbkhpdnaaDoor.K
set_option linter.unusedVariables false
set_option linter.unusedSimpArgs false
open Go.RowKit Go.Proofs.YtmeblifbkhpdnaaDoorW.PrintWords Go.Proofs.YtmeblifbkhpdnaaDoorW.PrintLast Go.Proofs.YtmeblifbkhpdnaaDoorW.PrintMore
def rTab : List Int := [0, 2, 5, 11]
def GRec (w : World) : Prop := ∀ j : Nat, j < 4 → w.cell? ⟨0, j, none⟩ = some (.int .i64 (rd rTab (j : Int)))
theorem GRec.lt {w : World} (h : GRec w) : 0 < w.heap.size := cell_blk (h 0 (by omega))
theorem GRec.keep {w w' : World} {n : Nat} (h : GRec w) (hb : Below n w w') (hn : 0 < n) : GRec w' := fun j hj => (hb.cell (p := ⟨0, j, none⟩) hn).trans (h j hj)
theorem GRec.below {w w' : World} (h : GRec w) (hb : Below w.heap.size w w') : GRec w' := h.keep hb h.lt
def rHas (k : Int) : Int := if k < 1 then 0 else if 3 < k then 0 else rd rTab k
set_option maxHeartbeats 800000 in
theorem record_has (w : World) (k : Int) (hG : GRec w) :
    Calls Tryd.prog 32 #[.int .i64 k] w fun en w' => en = .returned (.int .i64 (rHas k)) ∧ w = w' := by
  have HG := Aside0.mk hG
  clear hG
  have hR : rHas k = if k < 1 then 0 else if 3 < k then 0 else rd rTab k := rfl
  by_cases h1 : k < 1
  · have d1 : decide (k < 1) = true := by simpa using h1
    rw [if_pos h1] at hR
    have HR := Aside0.mk hR
    clear hR h1
    go_enter Tryd.func32, Tryd.ntmps32
    go_wp2_with fail
    go_ret
    exact ⟨by rw [HR.out]; rfl, rfl⟩
  · have d1 : decide (k < 1) = false := by simpa using h1
    rw [if_neg h1] at hR
    by_cases h2 : 3 < k
    · have d2 : decide (3 < k) = true := by simpa using h2
      rw [if_pos h2] at hR
      have HR := Aside0.mk hR
      clear hR h1 h2
      go_enter Tryd.func32, Tryd.ntmps32
      go_wp2_with fail
      go_ret
      exact ⟨by rw [HR.out]; rfl, rfl⟩
    · have d2 : decide (3 < k) = false := by simpa using h2
      rw [if_neg h2] at hR
      have HR := Aside0.mk hR
      obtain ⟨j, rfl⟩ := Int.eq_ofNat_of_zero_le (show 0 ≤ k by omega)
      have hc := HG.out j (by omega)
      have h4 : (j : Int) < 4 := by omega
      clear hR
      go_enter Tryd.func32, Tryd.ntmps32
      go_wp2_with fail
      go_ret
      exact ⟨by rw [HR.out]; rfl, rfl⟩
abbrev numsV (b : Nat) : Value := .agg #[.pointer (some ⟨b, 3, none⟩), .int .i64 1, .pointer (some ⟨b, 1, none⟩), .int .i64 2, .pointer (some ⟨b, 2, none⟩), .int .i64 2]
theorem num_box {W : World} {b : Nat} {y0 y1 y2 y3 y4 y5 : Value} {t : TypeId} (h : W.heap[b]? = some (.cells #[y0, y1, y2, y3, y4, y5] t (0, 0))) (v0 v1 v2 v3 v4 v5 : Value) :
    ((((((W.setCell ⟨b, 0, none⟩ v0).setCell ⟨b, 1, none⟩ v1).setCell ⟨b, 2, none⟩ v2).setCell ⟨b, 3, none⟩ v3).setCell ⟨b, 4, none⟩ v4).setCell ⟨b, 5, none⟩ v5).heap[b]? = some (.cells #[v0, v1, v2, v3, v4, v5] t (0, 0)) := by
  have h0 := blk_put h 0 v0 (cs' := #[v0, y1, y2, y3, y4, y5]) rfl
  have h1 := blk_put h0 1 v1 (cs' := #[v0, v1, y2, y3, y4, y5]) rfl
  have h2 := blk_put h1 2 v2 (cs' := #[v0, v1, v2, y3, y4, y5]) rfl
  have h3 := blk_put h2 3 v3 (cs' := #[v0, v1, v2, v3, y4, y5]) rfl
  have h4 := blk_put h3 4 v4 (cs' := #[v0, v1, v2, v3, v4, y5]) rfl
  exact blk_put h4 5 v5 (cs' := #[v0, v1, v2, v3, v4, v5]) rfl
abbrev NumS (w : World) (W : World) : Prop :=
  W.cell? ⟨w.heap.size, 0, none⟩ = some (.pointer none) ∧ W.cell? ⟨w.heap.size, 1, none⟩ = some (.int .i64 0) ∧ W.cell? ⟨w.heap.size, 2, none⟩ = some (.pointer none) ∧ W.cell? ⟨w.heap.size, 3, none⟩ = some (.int .i64 0) ∧ W.cell? ⟨w.heap.size, 4, none⟩ = some (.pointer none) ∧ W.cell? ⟨w.heap.size, 5, none⟩ = some (.int .i64 0) ∧
  W.frozen? ⟨w.heap.size, 0, none⟩ = false ∧ W.frozen? ⟨w.heap.size, 1, none⟩ = false ∧ W.frozen? ⟨w.heap.size, 2, none⟩ = false ∧ W.frozen? ⟨w.heap.size, 3, none⟩ = false ∧ W.frozen? ⟨w.heap.size, 4, none⟩ = false ∧ W.frozen? ⟨w.heap.size, 5, none⟩ = false ∧
  Aside0 (W.heap[w.heap.size]? = some (.cells #[.pointer none, .int .i64 0, .pointer none, .int .i64 0, .pointer none, .int .i64 0] 66 (0, 0))) ∧ Aside0 (Below w.heap.size w W)
theorem NumS.of {w W : World} (h : W.heap[w.heap.size]? = some (.cells #[.pointer none, .int .i64 0, .pointer none, .int .i64 0, .pointer none, .int .i64 0] 66 (0, 0))) (hb : Below w.heap.size w W) : NumS w W :=
  ⟨blk_cell h 0, blk_cell h 1, blk_cell h 2, blk_cell h 3, blk_cell h 4, blk_cell h 5, blk_frozen h 0, blk_frozen h 1, blk_frozen h 2, blk_frozen h 3, blk_frozen h 4, blk_frozen h 5, ⟨h⟩, ⟨hb⟩⟩
theorem NumS.drew {w W : World} (h : NumS w W) : NumS w W.drew := NumS.of (blk_drew h.2.2.2.2.2.2.2.2.2.2.2.2.1.out) h.2.2.2.2.2.2.2.2.2.2.2.2.2.out.drew
set_option maxRecDepth 20000 in
set_option maxHeartbeats 4000000 in
theorem record_numbers (w : World) (b : Nat) :
    Calls Tryd.prog 33 #[.pointer (some ⟨b, 0, none⟩)] w fun en w' => en = .returned (numsV b) ∧ Below w.heap.size w w' := by
  go_enter Tryd.func33, Tryd.ntmps33
  go_wp2_with fail
  have hS := NumS.of (blk_new w (.cells #[.pointer none, .int .i64 0, .pointer none, .int .i64 0, .pointer none, .int .i64 0] 66)) (below_alloc (Below.refl w.heap.size w) _)
  obtain ⟨W, hW⟩ : ∃ W, W = w.alloc (.cells #[.pointer none, .int .i64 0, .pointer none, .int .i64 0, .pointer none, .int .i64 0] 66) := ⟨_, rfl⟩
  rw [← hW] at hS ⊢
  clear hW
  obtain ⟨_, _, _, _, _, _, _, _, _, _, _, _, HBX, HB⟩ := hS.drew
  refine wp_region_held_drew (S := fun w' => Aside0 (Below w.heap.size w w')) (by kernel_rfl) HB (fun hHeld => ?_)
  refine takeH (i := 0) (some 3) (v := ?_) rfl rfl (by kernel_rfl) (by kernel_rfl) (by kernel_rfl) (fun _ _ _ h => h) (Or.inl ⟨by kernel_rfl, ?_⟩) (by assumption) ?_
  rotate_left
  · (rintro w' hs; go_simp; first | done | with_reducible rfl)
  simp only [Act.put, List.setIfInBounds_toArray, List.set_cons_zero, List.set_cons_succ]
  refine takeH (i := 1) (some 4) (v := ?_) rfl rfl (by kernel_rfl) (by kernel_rfl) (by kernel_rfl) (fun _ _ _ h => h) (Or.inl ⟨by kernel_rfl, ?_⟩) (by assumption) ?_
  rotate_left
  · (rintro w' hs; go_simp; first | done | with_reducible rfl)
  simp only [Act.put, List.setIfInBounds_toArray, List.set_cons_zero, List.set_cons_succ]
  refine takeH (i := 2) (some 5) (v := ?_) rfl rfl (by kernel_rfl) (by kernel_rfl) (by kernel_rfl) (fun _ _ _ h => h) (Or.inl ⟨by kernel_rfl, ?_⟩) (by assumption) ?_
  rotate_left
  · (rintro w' hs; go_simp; first | done | with_reducible rfl)
  simp only [Act.put, List.setIfInBounds_toArray, List.set_cons_zero, List.set_cons_succ]
  refine takeH (i := 3) (some 6) (v := ?_) rfl rfl (by kernel_rfl) (by kernel_rfl) (by kernel_rfl) (fun _ _ _ h => h) (Or.inl ⟨by kernel_rfl, ?_⟩) (by assumption) ?_
  rotate_left
  · (rintro w' hs; go_simp; first | done | with_reducible rfl)
  simp only [Act.put, List.setIfInBounds_toArray, List.set_cons_zero, List.set_cons_succ]
  refine takeH (i := 4) (some 7) (v := ?_) rfl rfl (by kernel_rfl) (by kernel_rfl) (by kernel_rfl) (fun _ _ _ h => h) (Or.inl ⟨by kernel_rfl, ?_⟩) (by assumption) ?_
  rotate_left
  · (rintro w' hs; go_simp; first | done | with_reducible rfl)
  simp only [Act.put, List.setIfInBounds_toArray, List.set_cons_zero, List.set_cons_succ]
  refine takeH (i := 5) (some 8) (v := ?_) rfl rfl (by kernel_rfl) (by kernel_rfl) (by kernel_rfl) (fun _ _ _ h => h) (Or.inl ⟨by kernel_rfl, ?_⟩) (by assumption) ?_
  rotate_left
  · (rintro w' hs; go_simp; first | done | with_reducible rfl)
  simp only [Act.put, List.setIfInBounds_toArray, List.set_cons_zero, List.set_cons_succ]
  refine takeH (i := 6) (some 9) (v := ?_) rfl rfl (by kernel_rfl) (by kernel_rfl) (by kernel_rfl) (fun _ _ _ h => h) (Or.inl ⟨by kernel_rfl, ?_⟩) (by assumption) ?_
  rotate_left
  · (rintro w' hs; go_simp; first | done | with_reducible rfl)
  simp only [Act.put, List.setIfInBounds_toArray, List.set_cons_zero, List.set_cons_succ]
  refine takeH (i := 7) (some 10) (v := ?_) rfl rfl (by kernel_rfl) (by kernel_rfl) (by kernel_rfl) (fun _ _ _ h => h) (Or.inl ⟨by kernel_rfl, ?_⟩) (by assumption) ?_
  rotate_left
  · (rintro w' hs; go_simp; first | done | with_reducible rfl)
  simp only [Act.put, List.setIfInBounds_toArray, List.set_cons_zero, List.set_cons_succ]
  refine takeH (i := 8) (some 11) (v := ?_) rfl rfl (by kernel_rfl) (by kernel_rfl) (by kernel_rfl) (fun _ _ _ h => h) (Or.inl ⟨by kernel_rfl, ?_⟩) (by assumption) ?_
  rotate_left
  · (rintro w' hs; go_simp; first | done | with_reducible rfl)
  simp only [Act.put, List.setIfInBounds_toArray, List.set_cons_zero, List.set_cons_succ]
  refine takeH (i := 9) (some 12) (v := ?_) rfl rfl (by kernel_rfl) (by kernel_rfl) (by kernel_rfl) (fun _ _ _ h => h) (Or.inl ⟨by kernel_rfl, ?_⟩) (by assumption) ?_
  rotate_left
  · (rintro w' hs; go_simp; first | done | with_reducible rfl)
  simp only [Act.put, List.setIfInBounds_toArray, List.set_cons_zero, List.set_cons_succ]
  refine takeH (i := 10) (some 13) (v := ?_) rfl rfl (by kernel_rfl) (by kernel_rfl) (by kernel_rfl) (fun _ _ _ h => h) (Or.inl ⟨by kernel_rfl, ?_⟩) (by assumption) ?_
  rotate_left
  · (rintro w' hs; go_simp; first | done | with_reducible rfl)
  simp only [Act.put, List.setIfInBounds_toArray, List.set_cons_zero, List.set_cons_succ]
  refine takeH (i := 11) (some 14) (v := ?_) rfl rfl (by kernel_rfl) (by kernel_rfl) (by kernel_rfl) (fun _ _ _ h => h) (Or.inl ⟨by kernel_rfl, ?_⟩) (by assumption) ?_
  rotate_left
  · (rintro w' hs; go_simp; first | done | with_reducible rfl)
  simp only [Act.put, List.setIfInBounds_toArray, List.set_cons_zero, List.set_cons_succ]
  refine takeH (i := 12) (some 15) (v := ?_) rfl rfl (by kernel_rfl) (by kernel_rfl) (by kernel_rfl) (fun _ _ _ h => h) (Or.inl ⟨by kernel_rfl, ?_⟩) (by assumption) ?_
  rotate_left
  · (rintro w' hs; go_simp; first | done | with_reducible rfl)
  simp only [Act.put, List.setIfInBounds_toArray, List.set_cons_zero, List.set_cons_succ]
  refine wpAnyH_ready (rs := [13]) (by kernel_rfl) (by simp) ?_
  refine AllReadyH.cons rfl (fun K hK => ?_) AllReadyH.nil
  obtain ⟨c0, c1, c2, c3, c4, c5, f0, f1, f2, f3, f4, f5, HBX0, HB0⟩ := hS
  go_simp
  refine hK.out _ _ ?_ (fun hHeld => ?_)
  · exact ⟨below_drew (below_set (below_set (below_set (below_set (below_set (below_set HB0.out (Nat.le_refl _)) (Nat.le_refl _)) (Nat.le_refl _)) (Nat.le_refl _)) (Nat.le_refl _)) (Nat.le_refl _))⟩
  clear hK K
  try simp only [Act.put, List.setIfInBounds_toArray, List.set_cons_zero, List.set_cons_succ]
  refine wpAnyH_done (by kernel_rfl) ?_ _
  have hbx := blk_drew (num_box HBX0.out (.pointer (some ⟨b, 3, none⟩)) (.int .i64 1) (.pointer (some ⟨b, 1, none⟩)) (.int .i64 2) (.pointer (some ⟨b, 2, none⟩)) (.int .i64 2))
  have hbl := below_drew (below_set (below_set (below_set (below_set (below_set (below_set HB0.out (Nat.le_refl _) (v := .pointer (some ⟨b, 3, none⟩)) (j := 0)) (Nat.le_refl _) (v := .int .i64 1) (j := 1)) (Nat.le_refl _) (v := .pointer (some ⟨b, 1, none⟩)) (j := 2)) (Nat.le_refl _) (v := .int .i64 2) (j := 3)) (Nat.le_refl _) (v := .pointer (some ⟨b, 2, none⟩)) (j := 4)) (Nat.le_refl _) (v := .int .i64 2) (j := 5))
  have HL := Aside0.mk hbl
  have HX := Aside0.mk hbx
  clear hbl hbx
  go_wp2_with fail
  exact bodyPost_ret (results_cell_row rfl _ _ w.heap.size 66 _ (0, 0) _ rfl HX.out Tryd.underlying66 rfl (by kernel_rfl)) rfl ⟨rfl, HL.out⟩
end Go.Proofs.YtmeblifbkhpdnaaDoor.K
namespace Go.Proofs.YtmeblifbkhpdnaaDoor.K
set_option linter.unusedVariables false
set_option linter.unusedSimpArgs false
open Go.RowKit Go.Proofs.YtmeblifbkhpdnaaDoorW.PrintWords Go.Proofs.YtmeblifbkhpdnaaDoorW.PrintLast Go.Proofs.YtmeblifbkhpdnaaDoorW.PrintMore
theorem entE_ne (x : Ent) : (entE x != 0) = !(entOk x) := by
  unfold entE
  cases entOk x <;> rfl
set_option maxRecDepth 20000 in
set_option maxHeartbeats 4000000 in
theorem record_Check_1 (w : World) (A : Option Addr) (c : Nat) (x : Ent) (hG : GItem w) (hA : kLine.C w A x.f2.f4.length x.f2.f4) (hc : x.f2.f4.length ≤ c) :
    Calls Tryd.prog 44 #[entV x (.slice A x.f2.f4.length c)] w fun en w' => en = .returned (.bool (!(entOk x))) ∧ Below w.heap.size w w' := by
  have hwa := below_alloc (Below.refl w.heap.size w) (.cells (entC x (.slice A x.f2.f4.length c)) 38)
  have HCK := Aside0.mk (entry_Check _ A c x (hG.below hwa) (Kd.C_below hA hwa) hc)
  have HW := Aside0.mk hwa
  have HE := Aside0.mk (entE_ne x)
  clear hG hA hc hwa
  go_enter Tryd.func44, Tryd.ntmps44
  go_wp2_with (first | (go_at_call 41; refine HCK.out.mono ?_; rintro en w1 ⟨rfl, hb⟩; have HB := Aside0.mk (HW.out.trans (hb.mono HW.out.size)); clear hb))
  go_ret
  exact ⟨by rw [← HE.out]; rfl, HB.out⟩
set_option maxRecDepth 20000 in
set_option maxHeartbeats 4000000 in
theorem indexFunc (w : World) (A : Option Addr) (c : Nat) (l : List Ent) (hG : GItem w) (hA : kEnt.C w A l.length l) (hc : l.length ≤ c) :
    Calls Tryd.prog 83 #[.slice A l.length c, .func (.func 44) #[] #[]] w fun en w' => ∃ r : Int, en = .returned (.int .i64 r) ∧ decide (0 ≤ r) = !(l.all entOk) ∧ Below w.heap.size w w' := by
  have HG := Aside0.mk hG
  have HA := Aside0.mk hA
  have hlm : l.length ≤ maxLen := hA.2.1
  have HLM := Aside0.mk hlm
  clear hA hlm hG
  go_enter Tryd.func83, Tryd.ntmps83
  go_wp2_with fail
  go_loopw [8] (fun v wr => ∃ (k : Nat), k ≤ l.length ∧ v = .int .i64 k ∧ Aside0 ((l.take k).all entOk = true) ∧ Aside0 (Below w.heap.size w wr)) (fun v _ => l.length - (intOf v).toNat)
  case atStart => exact ⟨0, by omega, rfl, ⟨rfl⟩, ⟨Below.refl _ _⟩⟩
  case round =>
    obtain ⟨k, hk, rfl, HE, HB⟩ := hrel
    by_cases hlt : k < l.length
    · have hb : decide ((k : Int) < (l.length : Int)) = true := by simp; omega
      obtain ⟨ad, A6, c6, e1, ⟨h0, h1, h2, h3, h4, h5, h6⟩, hc6, hC6⟩ := ent_at HA.out HB.out k hlt
      cases e1
      have HT := Aside0.mk (takeE_snoc l k hlt)
      have HBAD := Aside0.mk (all_bad l k hlt)
      generalize l[k] = x at *
      have HCK := Aside0.mk (record_Check_1 wr A6 c6 x (HG.out.keep HB.out HG.out.lt) hC6 hc6)
      clear hC6 hc6
      go_upto_if 16 with (first | (go_at_call 44; refine HCK.out.mono ?_; rintro en w2 ⟨rfl, hb⟩; have HB2 := Aside0.mk (HB.out.trans (hb.mono HB.out.size)); clear hb))
      cases hok : entOk x
      · have HBD := Aside0.mk (HBAD.out hok)
        go_wp2_with fail
        go_ret
        exact ⟨(k : Int), rfl, by rw [HBD.out]; simp, HB2.out⟩
      · have HOK := Aside0.mk hok
        have hwk := wrap_next l.length k hlt HLM.out
        go_wp2_with fail
        go_roundw
        case rel => exact ⟨k + 1, by omega, by rw [hwk], ⟨by rw [HT.out, List.all_append, HE.out]; simp [HOK.out]⟩, HB2⟩
        case measure => exact meas_step l.length k hlt hwk
    · have hb : decide ((k : Int) < (l.length : Int)) = false := by simp; omega
      obtain rfl : k = l.length := by omega
      have hall := HE.out
      rw [List.take_length] at hall
      have HALL := Aside0.mk hall
      clear hall
      go_wp2_with fail
      go_ret
      exact ⟨-1, rfl, by rw [HALL.out]; decide, HB.out⟩
set_option maxRecDepth 20000 in
set_option maxHeartbeats 4000000 in
theorem containsFunc (w : World) (A : Option Addr) (c : Nat) (l : List Ent) (hG : GItem w) (hA : kEnt.C w A l.length l) (hc : l.length ≤ c) :
    Calls Tryd.prog 43 #[.slice A l.length c, .func (.func 44) #[] #[]] w fun en w' => en = .returned (.bool (!(l.all entOk))) ∧ Below w.heap.size w w' := by
  have HE := Aside0.mk (indexFunc w A c l hG hA hc)
  clear hG hA hc
  go_enter Tryd.func43, Tryd.ntmps43
  go_wp2_with (first | (go_at_call 83; refine HE.out.mono ?_; rintro en w1 ⟨r, rfl, hr, hb⟩; have HB := Aside0.mk hb; have HR := Aside0.mk hr; clear hb hr))
  go_ret
  exact ⟨by rw [← HR.out]; rfl, HB.out⟩
end Go.Proofs.YtmeblifbkhpdnaaDoor.K
namespace Go.Proofs.YtmeblifbkhpdnaaDoor.K
set_option linter.unusedVariables false
set_option linter.unusedSimpArgs false
open Go.RowKit Go.Proofs.YtmeblifbkhpdnaaDoorW.PrintWords Go.Proofs.YtmeblifbkhpdnaaDoorW.PrintLast Go.Proofs.YtmeblifbkhpdnaaDoorW.PrintMore
abbrev Rec := S41
def kRec : Kd Rec := k41
abbrev recC (x : Rec) (v u : Value) : Array Value := #[.int .i64 x.f0, .int .i64 x.f1, .int .i64 x.f2, .int .i64 x.f3, .int .i64 x.f4.f0, .int .i64 x.f4.f1, .int .i64 x.f4.f2.f0, .string x.f4.f2.f1, .int .i64 x.f4.f2.f2, .int .i64 x.f4.f2.f3, v, u]
abbrev recV (x : Rec) (v u : Value) : Value := .agg (recC x v u)
def numOk (own n what : Int) : Bool := (n == 0) || ((bits .and .i64 own what != 0) && (decide (0 < n) && decide (n ≤ 9007199254740991)))
theorem entE_eq (x : Ent) : (entE x == 0) = entOk x := by
  unfold entE
  cases entOk x <;> rfl
def nOff (k : Nat) : Nat := if k = 0 then 3 else k
def nWhat (k : Nat) : Int := if k = 0 then 1 else 2
def nVal (x : Rec) (k : Nat) : Int := if k = 0 then x.f3 else if k = 1 then x.f1 else x.f2
def okN (own : Int) (x : Rec) : Nat → Bool
  | 0 => own != 0
  | k + 1 => okN own x k && numOk own (nVal x k) (nWhat k)
def okE (own : Int) (x : Rec) : Bool := okN own x 3 && (if bits .and .i64 own 4 != 0 then decide (0 < x.f3) && entOk x.f4 else sameEnt x.f4 zEnt)
def recOk (x : Rec) : Bool := okE (rHas x.f0) x && (x.f5.all entOk && (decide (x.f5.length ≤ 24) && !((bits .and .i64 (rHas x.f0) 8 == 0) && decide (0 < x.f5.length))))
def recE (x : Rec) : Int := if recOk x then 0 else 2
theorem nums_index (b k : Nat) (hk : k < 3) (W : World) : (Instr.index 66 (numsV b) (.int .i64 (k : Int))).run Tryd.prog W = .ok (.agg #[.pointer (some ⟨b, nOff k, none⟩), .int .i64 (nWhat k)]) W := by
  have : k = 0 ∨ k = 1 ∨ k = 2 := by omega
  rcases this with rfl | rfl | rfl
  · show (Instr.index 66 (numsV b) (.int .i64 0)).run Tryd.prog W = .ok (.agg #[.pointer (some ⟨b, 3, none⟩), .int .i64 1]) W
    kernel_rfl
  · show (Instr.index 66 (numsV b) (.int .i64 1)).run Tryd.prog W = .ok (.agg #[.pointer (some ⟨b, 1, none⟩), .int .i64 2]) W
    kernel_rfl
  · show (Instr.index 66 (numsV b) (.int .i64 2)).run Tryd.prog W = .ok (.agg #[.pointer (some ⟨b, 2, none⟩), .int .i64 2]) W
    kernel_rfl
theorem nums_cell {W : World} {b : Nat} {x : Rec} {v u : Value} (h : W.heap[b]? = some (.cells (recC x v u) 41 (0, 0))) (k : Nat) (hk : k < 3) : W.cell? ⟨b, nOff k, none⟩ = some (.int .i64 (nVal x k)) := by
  have : k = 0 ∨ k = 1 ∨ k = 2 := by omega
  rcases this with rfl | rfl | rfl
  · exact blk_cell h 3
  · exact blk_cell h 1
  · exact blk_cell h 2
set_option maxRecDepth 20000 in
set_option maxHeartbeats 4000000 in
theorem record_Check (w : World) (A B : Option Addr) (c d : Nat) (x : Rec) (hG : GItem w) (hH : GRec w) (hA : kLine.C w A x.f4.f2.f4.length x.f4.f2.f4) (hc : x.f4.f2.f4.length ≤ c) (hB : kEnt.C w B x.f5.length x.f5) (hd : x.f5.length ≤ d) :
    Calls Tryd.prog 17 #[recV x (.slice A x.f4.f2.f4.length c) (.slice B x.f5.length d)] w fun en w' => en = .returned (.int .i64 (recE x)) ∧ Below w.heap.size w w' := by
  have HG := Aside0.mk hG
  have HH := Aside0.mk hH
  have HA := Aside0.mk hA
  have HC := Aside0.mk hc
  have HBB := Aside0.mk hB
  have HD := Aside0.mk hd
  clear hG hH hA hc hB hd
  have HB0 := Aside0.mk (below_alloc (Below.refl w.heap.size w) (.cells (recC x (.slice A x.f4.f2.f4.length c) (.slice B x.f5.length d)) 41))
  have HX0 := Aside0.mk (blk_new w (.cells (recC x (.slice A x.f4.f2.f4.length c) (.slice B x.f5.length d)) 41))
  have HHAS := Aside0.mk (record_has _ x.f0 (HH.out.below HB0.out))
  have HNUM := Aside0.mk (record_numbers (w.alloc (.cells (recC x (.slice A x.f4.f2.f4.length c) (.slice B x.f5.length d)) 41)) w.heap.size)
  have hown : recOk x = (okE (rHas x.f0) x && (x.f5.all entOk && (decide (x.f5.length ≤ 24) && !((bits .and .i64 (rHas x.f0) 8 == 0) && decide (0 < x.f5.length))))) := rfl
  generalize rHas x.f0 = own at HHAS hown
  have HOK := Aside0.mk hown
  clear hown
  have h00 : (own != 0) = okN own x 0 := rfl
  go_enter Tryd.func17, Tryd.ntmps17
  go_wp2_with (first | (go_at_call 32; refine HHAS.out.mono ?_; rintro en w1 ⟨rfl, rfl⟩) | (go_at_call 33; refine HNUM.out.mono ?_; rintro en w1 ⟨rfl, hb⟩; have HB1 := Aside0.mk (HB0.out.trans (hb.mono HB0.out.size)); have HX1 := Aside0.mk (blk_below HX0.out hb); clear hb))
  go_loopw [4, 14] (fun s4 v wr => ∃ k : Nat, k ≤ 3 ∧ v = .int .i64 (k : Int) ∧ s4 = .bool (okN own x k) ∧ Aside0 (wr.heap[w.heap.size]? = some (.cells (recC x (.slice A x.f4.f2.f4.length c) (.slice B x.f5.length d)) 41 (0, 0))) ∧ Aside0 (Below w.heap.size w wr)) (fun _ v _ => 3 - (intOf v).toNat)
  case atStart => exact ⟨0, by omega, rfl, rfl, HX1, HB1⟩
  case round =>
    clear HX0 HB0 HX1 HB1 HHAS HNUM
    obtain ⟨k, hk, rfl, rfl, HX, HB⟩ := hrel
    by_cases hlt : k < 3
    · have hb : decide ((k : Int) < 3) = true := by simp; omega
      have hix := nums_index w.heap.size k hlt
      have hcell := nums_cell HX.out k hlt
      have hs : okN own x (k + 1) = (okN own x k && numOk own (nVal x k) (nWhat k)) := rfl
      have HS := Aside0.mk hs
      have hno : numOk own (nVal x k) (nWhat k) = ((nVal x k == 0) || ((bits .and .i64 own (nWhat k) != 0) && (decide (0 < nVal x k) && decide (nVal x k ≤ 9007199254740991)))) := rfl
      have HNO := Aside0.mk hno
      clear hs hno
      generalize okN own x k = ok at *
      generalize nVal x k = n at *
      generalize nWhat k = what at *
      generalize nOff k = off at *
      have hw1 := below_alloc (Below.refl wr.heap.size wr) (.cells #[.pointer (some ⟨w.heap.size, off, none⟩), .int .i64 what] 65)
      have hcell1 := (hw1.cell (cell_blk hcell)).trans hcell
      have hp0 : (wr.alloc (.cells #[.pointer (some ⟨w.heap.size, off, none⟩), .int .i64 what] 65)).cell? ⟨wr.heap.size, 0, none⟩ = some (.pointer (some ⟨w.heap.size, off, none⟩)) := by simp
      have hp1 : (wr.alloc (.cells #[.pointer (some ⟨w.heap.size, off, none⟩), .int .i64 what] 65)).cell? ⟨wr.heap.size, 1, none⟩ = some (.int .i64 what) := by simp
      have HX1 := Aside0.mk (blk_below HX.out hw1)
      have HB1 := Aside0.mk (HB.out.trans (hw1.mono HB.out.size))
      go_upto_region 6 with fail
      clear hw1 HX HB hcell hix
      generalize wr.alloc (.cells #[.pointer (some ⟨w.heap.size, off, none⟩), .int .i64 what] 65) = W1 at *
      cases ok
      · go_wp2_with fail
        go_roundw
        case rel => exact ⟨k + 1, by omega, by go_num, by rw [HS.out]; rfl, HX1, HB1⟩
        case measure => (simp [intOf]; omega)
      · cases h1 : n == 0
        · cases h2 : bits .and .i64 own what != 0
          · go_wp2_with fail
            go_roundw
            case rel => exact ⟨k + 1, by omega, by go_num, by rw [HS.out, HNO.out, h1, h2]; rfl, HX1, HB1⟩
            case measure => (simp [intOf]; omega)
          · cases h3 : decide (0 < n)
            · go_wp2_with fail
              go_roundw
              case rel => exact ⟨k + 1, by omega, by go_num, by rw [HS.out, HNO.out, h1, h2, h3]; rfl, HX1, HB1⟩
              case measure => (simp [intOf]; omega)
            · cases h4 : decide (n ≤ 9007199254740991)
              · go_wp2_with fail
                go_roundw
                case rel => exact ⟨k + 1, by omega, by go_num, by rw [HS.out, HNO.out, h1, h2, h3, h4]; rfl, HX1, HB1⟩
                case measure => (simp [intOf]; omega)
              · go_wp2_with fail
                go_roundw
                case rel => exact ⟨k + 1, by omega, by go_num, by rw [HS.out, HNO.out, h1, h2, h3, h4]; rfl, HX1, HB1⟩
                case measure => (simp [intOf]; omega)
        · go_wp2_with fail
          go_roundw
          case rel => exact ⟨k + 1, by omega, by go_num, by rw [HS.out, HNO.out, h1]; rfl, HX1, HB1⟩
          case measure => (simp [intOf]; omega)
    · have hb : decide ((k : Int) < 3) = false := by simp; omega
      obtain rfl : k = 3 := by omega
      have h4b : okE own x = (okN own x 3 && (if bits .and .i64 own 4 != 0 then decide (0 < x.f3) && entOk x.f4 else sameEnt x.f4 zEnt)) := rfl
      have H4 := Aside0.mk h4b
      clear h4b h00
      obtain ⟨q0, q1, q2, q3, q4, q5, q6, q7, q8, q9, q10, q11⟩ : _ ∧ _ ∧ _ ∧ _ ∧ _ ∧ _ ∧ _ ∧ _ ∧ _ ∧ _ ∧ _ ∧ _ := ⟨blk_cell HX.out 0, blk_cell HX.out 1, blk_cell HX.out 2, blk_cell HX.out 3, blk_cell HX.out 4, blk_cell HX.out 5, blk_cell HX.out 6, blk_cell HX.out 7, blk_cell HX.out 8, blk_cell HX.out 9, blk_cell HX.out 10, blk_cell HX.out 11⟩
      simp only [List.getElem?_toArray, List.getElem?_cons_zero, List.getElem?_cons_succ] at q0 q1 q2 q3 q4 q5 q6 q7 q8 q9 q10 q11
      generalize okN own x 3 = ok3 at *
      go_upto_if 49 with fail
      go_cut [4] (fun s4 wx => s4 = .bool (okE own x) ∧ Aside0 (wx.heap[w.heap.size]? = some (.cells (recC x (.slice A x.f4.f2.f4.length c) (.slice B x.f5.length d)) 41 (0, 0))) ∧ Aside0 (Below w.heap.size w wx))
      case first =>
        have hsm : Calls Tryd.prog 42 #[entV x.f4 (.slice A x.f4.f2.f4.length c), .agg #[.int .i64 0, .int .i64 0, .int .i64 0, .string ⟨#[]⟩, .int .i64 0, .int .i64 0, .slice none 0 0]] wr fun en w' => en = .returned (.bool (sameEnt x.f4 zEnt)) ∧ Below wr.heap.size wr w' :=
          entry_Same' wr A none c 0 x.f4 zEnt (Kd.C_below HA.out (HB.out.mono (Nat.le_refl _))) HC.out (Kd.C_nil _ _) (Nat.le_refl _)
        have HSM := Aside0.mk hsm
        have HCK := Aside0.mk (entry_Check wr A c x.f4 (HG.out.keep HB.out HG.out.lt) (Kd.C_below HA.out HB.out) HC.out)
        have HEE := Aside0.mk (entE_eq x.f4)
        clear hsm
        cases h4 : bits .and .i64 own 4 != 0
        · cases ok3
          · go_wp2_with fail
            go_meet
            exact ⟨by rw [H4.out, h4]; rfl, HX, HB⟩
          · go_wp2_with (first | (go_at_call 42; refine HSM.out.mono ?_; rintro en w2 ⟨rfl, hb⟩; have HX2 := Aside0.mk (blk_below HX.out hb); have HB2 := Aside0.mk (HB.out.trans (hb.mono HB.out.size)); clear hb))
            go_meet
            exact ⟨by rw [H4.out, h4]; rfl, HX2, HB2⟩
        · cases ok3
          · go_wp2_with fail
            go_meet
            exact ⟨by rw [H4.out, h4]; rfl, HX, HB⟩
          · cases h0 : decide (0 < x.f3)
            · go_wp2_with fail
              go_meet
              exact ⟨by rw [H4.out, h4, h0]; rfl, HX, HB⟩
            · go_wp2_with (first | (go_at_call 41; refine HCK.out.mono ?_; rintro en w2 ⟨rfl, hb⟩; have HX2 := Aside0.mk (blk_below HX.out hb); have HB2 := Aside0.mk (HB.out.trans (hb.mono HB.out.size)); clear hb))
              go_meet
              exact ⟨by rw [H4.out, h4, h0, ← HEE.out]; rfl, HX2, HB2⟩
      case rest =>
        clear HX HB q0 q1 q2 q3 q4 q5 q6 q7 q8 q9 q10 q11 H4
        obtain ⟨rfl, HX, HB⟩ := hcut
        have q11 : wc.cell? ⟨w.heap.size, 11, none⟩ = some (.slice B x.f5.length d) := blk_cell HX.out 11
        have HCF := Aside0.mk (containsFunc wc B d x.f5 (HG.out.keep HB.out HG.out.lt) (Kd.C_below HBB.out HB.out) HD.out)
        generalize okE own x = okk at *
        have d24 : decide ((24 : Int) < (x.f5.length : Int)) = !(decide (x.f5.length ≤ 24)) := by rw [← decide_not]; congr 1; simp; omega
        have d0 : decide ((0 : Int) < (x.f5.length : Int)) = decide (0 < x.f5.length) := by congr 1; simp
        have hE : recE x = if recOk x then 0 else 2 := rfl
        rw [HOK.out] at hE
        have HE := Aside0.mk hE
        clear hE HOK
        go_upto_region 12 with (first | (go_at_call 43; refine HCF.out.mono ?_; rintro en w2 ⟨rfl, hb⟩; clear q11; have q11 : w2.cell? ⟨w.heap.size, 11, none⟩ = some (.slice B x.f5.length d) := blk_cell (blk_below HX.out hb) 11; have HB2 := Aside0.mk (HB.out.trans (hb.mono HB.out.size)); clear hb))
        cases okk
        · go_wp2_with fail
          go_ret
          exact ⟨by rw [HE.out]; rfl, HB2.out⟩
        · cases hall : x.f5.all entOk
          · go_wp2_with fail
            go_ret
            exact ⟨by rw [HE.out, hall]; rfl, HB2.out⟩
          · cases h24 : decide (x.f5.length ≤ 24)
            · rw [h24] at d24
              simp only [Bool.not_false] at d24
              go_wp2_with fail
              go_ret
              exact ⟨by rw [HE.out, hall, h24]; rfl, HB2.out⟩
            · rw [h24] at d24
              simp only [Bool.not_true] at d24
              cases h8 : bits .and .i64 own 8 == 0
              · go_wp2_with fail
                go_ret
                exact ⟨by rw [HE.out, hall, h24, h8]; rfl, HB2.out⟩
              · cases h0 : decide (0 < x.f5.length)
                · rw [h0] at d0
                  go_wp2_with fail
                  go_ret
                  exact ⟨by rw [HE.out, hall, h24, h8, h0]; rfl, HB2.out⟩
                · rw [h0] at d0
                  go_wp2_with fail
                  go_ret
                  exact ⟨by rw [HE.out, hall, h24, h8, h0]; rfl, HB2.out⟩
end Go.Proofs.YtmeblifbkhpdnaaDoor.K
namespace Go.Proofs.YtmeblifbkhpdnaaDoor.K
set_option linter.unusedVariables false
set_option linter.unusedSimpArgs false
open Go.RowKit Go.Proofs.YtmeblifbkhpdnaaDoorW.PrintWords Go.Proofs.YtmeblifbkhpdnaaDoorW.PrintLast Go.Proofs.YtmeblifbkhpdnaaDoorW.PrintMore
def nB (own : Int) (x : Rec) (k : Nat) : List Int := if bits .and .i64 own (nWhat k) != 0 then vEnc (nVal x k).toNat else []
def bodyN (own : Int) (x : Rec) : Nat → List Int
  | 0 => [x.f0 % 256]
  | k + 1 => bodyN own x k ++ nB own x k
def bodyO (own : Int) (x : Rec) : List Int := bodyN own x 3 ++ (if bits .and .i64 own 4 != 0 then entB x.f4 else []) ++ (if bits .and .i64 own 8 != 0 then vEnc (rowB x.f5).length ++ rowB x.f5 else [])
def body (x : Rec) : List Int := bodyO (rHas x.f0) x
def sealed (b : List Int) : List Int := beB 2 b.length ++ beB 2 (65535 - b.length) ++ b
def recB (x : Rec) : List Int := sealed (body x) ++ beB 4 (crcI (sealed (body x))).toNat
def recR (x : Rec) : List Int := if recOk x then recB x else []
theorem numOk_range {own n what : Int} (h : numOk own n what = true) : 0 ≤ n ∧ n ≤ 9007199254740991 := by
  unfold numOk at h
  simp only [Bool.or_eq_true, Bool.and_eq_true, beq_iff_eq, decide_eq_true_eq] at h
  omega
theorem recOk_parts (x : Rec) (h : recOk x = true) : (∀ k, k < 3 → numOk (rHas x.f0) (nVal x k) (nWhat k) = true) ∧ (bits .and .i64 (rHas x.f0) 4 != 0) = true → entOk x.f4 = true := by
  intro ⟨_, h2⟩
  unfold recOk okE at h
  simp only [Bool.and_eq_true] at h
  have h3 := h.1.2
  rw [h2] at h3
  simp at h3
  exact h3.2
theorem recOk_nums (x : Rec) (h : recOk x = true) : rHas x.f0 ≠ 0 ∧ ∀ k, k < 3 → numOk (rHas x.f0) (nVal x k) (nWhat k) = true := by
  unfold recOk okE at h
  simp only [Bool.and_eq_true, okN] at h
  obtain ⟨⟨⟨⟨h0, h1⟩, h2⟩, h3⟩, _⟩ := h.1
  refine ⟨by simpa using h0, fun k hk => ?_⟩
  have : k = 0 ∨ k = 1 ∨ k = 2 := by omega
  rcases this with rfl | rfl | rfl <;> assumption
theorem recOk_rows (x : Rec) (h : recOk x = true) : x.f5.all entOk = true ∧ x.f5.length ≤ 24 := by
  unfold recOk at h
  simp only [Bool.and_eq_true, decide_eq_true_eq] at h
  exact ⟨h.2.1, h.2.2.1⟩
def RecW (x : Rec) : Prop := I64 x.f4.f2.f3 ∧ ∀ y ∈ x.f5, I64 y.f2.f3
theorem rowB_len (l : List Ent) (h : l.all entOk = true) (hw : ∀ y ∈ l, I64 y.f2.f3) (hl : l.length ≤ 24) : (rowB l).length ≤ 4378 := by
  have e1 := vEnc_ten l.length (by omega)
  have e2 := flatMap_len entT 182 l (fun y hy => entT_len y (List.all_eq_true.1 h y hy) (hw y hy))
  unfold rowB
  rw [List.length_append]
  omega
theorem nB_len (own : Int) (x : Rec) (k : Nat) (h : 0 ≤ nVal x k ∧ nVal x k ≤ 9007199254740991) : (nB own x k).length ≤ 10 := by
  unfold nB
  split
  · exact vEnc_ten _ (by omega)
  · simp
theorem bodyN_len (own : Int) (x : Rec) : ∀ k, k ≤ 3 → (∀ j, j < 3 → 0 ≤ nVal x j ∧ nVal x j ≤ 9007199254740991) → (bodyN own x k).length ≤ 1 + 10 * k
  | 0, _, _ => by simp [bodyN]
  | k + 1, hk, h => by
    have e1 := bodyN_len own x k (by omega) h
    have e2 := nB_len own x k (h k (by omega))
    simp only [bodyN, List.length_append]
    omega
theorem beB_len (K n : Nat) : (beB K n).length = K := by simp [beB]
theorem crcI_range (l : List Int) : 0 ≤ crcI l ∧ crcI l < 4294967296 := by
  unfold crcI
  have := (CrcMath.crc l).isLt
  omega
set_option maxRecDepth 20000 in
set_option maxHeartbeats 8000000 in
theorem record_Bytes (w : World) (A B : Option Addr) (c d : Nat) (x : Rec) (hG : GItem w) (hH : GRec w) (hA : kLine.C w A x.f4.f2.f4.length x.f4.f2.f4) (hc : x.f4.f2.f4.length ≤ c) (hB : kEnt.C w B x.f5.length x.f5) (hd : x.f5.length ≤ d) (hW : RecW x) :
    Calls Tryd.prog 14 #[recV x (.slice A x.f4.f2.f4.length c) (.slice B x.f5.length d)] w fun en w' => ∃ v, en = .returned (.tuple #[v, .int .i64 (recE x)]) ∧ Kd.R (Kd.int .u8) 5 w' w.heap.size (fun _ => True) v (recR x) ∧ Below w.heap.size w w' := by
  have HG := Aside0.mk hG
  have HH := Aside0.mk hH
  have HA := Aside0.mk hA
  have HC := Aside0.mk hc
  have HBB := Aside0.mk hB
  have HD := Aside0.mk hd
  have HRW := Aside0.mk hW
  clear hG hH hA hc hB hd hW
  have HB0 := Aside0.mk (below_alloc (Below.refl w.heap.size w) (.cells (recC x (.slice A x.f4.f2.f4.length c) (.slice B x.f5.length d)) 41))
  have HX0 := Aside0.mk (blk_new w (.cells (recC x (.slice A x.f4.f2.f4.length c) (.slice B x.f5.length d)) 41))
  have HCK := Aside0.mk (record_Check _ A B c d x (HG.out.below HB0.out) (HH.out.below HB0.out) (Kd.C_below HA.out HB0.out) HC.out (Kd.C_below HBB.out HB0.out) HD.out)
  have hE : recE x = if recOk x then 0 else 2 := rfl
  have hR : recR x = if recOk x then recB x else [] := rfl
  cases hok : recOk x
  · rw [hok] at hE hR
    simp only [Bool.false_eq_true, if_false] at hE hR
    rw [hE] at HCK
    have HE := Aside0.mk hE
    have HR := Aside0.mk hR
    clear hE hR hok
    go_enter Tryd.func14, Tryd.ntmps14
    go_wp2_with (first | (go_at_call 17; refine HCK.out.mono ?_; rintro en w1 ⟨rfl, hb⟩; have HB1 := Aside0.mk (HB0.out.trans (hb.mono HB0.out.size)); clear hb))
    go_ret2
    exact ⟨.slice none 0 0, by rw [HE.out]; rfl, by rw [HR.out]; exact Kd.R_nil _ _ _ _ _, HB1.out⟩
  · rw [hok] at hE hR
    simp only [if_true] at hE hR
    rw [hE] at HCK
    have HE := Aside0.mk hE
    have HR := Aside0.mk hR
    obtain ⟨_, hnum⟩ := recOk_nums x hok
    have hent := fun h => recOk_parts x hok ⟨hnum, h⟩
    have hrows := recOk_rows x hok
    have hbody : body x = bodyO (rHas x.f0) x := rfl
    have hwit : ∀ k, k < 3 → 0 ≤ nVal x k ∧ nVal x k ≤ 9007199254740991 := fun k hk => numOk_range (hnum k hk)
    have HHAS := Aside0.mk (fun W hb => record_has W x.f0 (HH.out.keep (n := w.heap.size) hb HH.out.lt))
    generalize rHas x.f0 = own at *
    have HWIT := Aside0.mk hwit
    have HENT := Aside0.mk hent
    have HROWS := Aside0.mk hrows
    have HBODY := Aside0.mk hbody
    clear hE hR hok hent hrows hbody hwit hnum
    go_enter Tryd.func14, Tryd.ntmps14
    go_upto_block 0 with (first
      | (go_at_call 17; refine HCK.out.mono ?_; rintro en w1 ⟨rfl, hb⟩; have HB1 := Aside0.mk (HB0.out.trans (hb.mono HB0.out.size)); have HX1 := Aside0.mk (blk_below HX0.out hb); have q0 : w1.cell? ⟨w.heap.size, 0, none⟩ = some (.int .i64 x.f0) := blk_cell HX1.out 0; have q0' : (w1.alloc (.cells #[.int .u8 (x.f0 % 256)] 5)).cell? ⟨w.heap.size, 0, none⟩ = some (.int .i64 x.f0) := blk_cell (blk_alloc HX1.out _) 0; clear hb)
      | (go_at_call 32; refine (HHAS.out w1 HB1.out).mono ?_; rintro en w2 ⟨rfl, rfl⟩)
      | (go_at_call 33; refine (record_numbers _ w.heap.size).mono ?_; rintro en w3 ⟨rfl, hb⟩; have hal := below_alloc (Below.refl w1.heap.size w1) (.cells #[.int .u8 (x.f0 % 256)] 5); have HB3 := Aside0.mk (HB1.out.trans ((hal.trans (hb.mono hal.size)).mono HB1.out.size)); have HX3 := Aside0.mk (blk_below (blk_alloc HX1.out (.cells #[.int .u8 (x.f0 % 256)] 5)) hb); have HO3 := Aside0.mk (Kd.R_below (one_lit 5 w.heap.size w1 (x.f0 % 256) HB1.out.size) hb); clear hb hal))
    clear q0 q0' HB1 HX1 HB0 HX0 HCK
    go_cut [6] (fun s6 wx => Aside0 (Kd.R (Kd.int .u8) 5 wx w.heap.size (fun _ => True) s6 (bodyN own x 3)) ∧ Aside0 (wx.heap[w.heap.size]? = some (.cells (recC x (.slice A x.f4.f2.f4.length c) (.slice B x.f5.length d)) 41 (0, 0))) ∧ Aside0 (Below w.heap.size w wx))
    case first =>
      go_wp2_with fail
      go_loopw [6, 28] (fun s6 v wr => ∃ k : Nat, k ≤ 3 ∧ v = .int .i64 (k : Int) ∧ Aside0 (Kd.R (Kd.int .u8) 5 wr w.heap.size (fun _ => True) s6 (bodyN own x k)) ∧ Aside0 (wr.heap[w.heap.size]? = some (.cells (recC x (.slice A x.f4.f2.f4.length c) (.slice B x.f5.length d)) 41 (0, 0))) ∧ Aside0 (Below w.heap.size w wr)) (fun _ v _ => 3 - (intOf v).toNat)
      case atStart => exact ⟨0, by omega, rfl, HO3, HX3, HB3⟩
      case round =>
        clear HO3 HX3 HB3
        obtain ⟨k, hk, rfl, HO, HX, HB⟩ := hrel
        by_cases hlt : k < 3
        · have hb : decide ((k : Int) < 3) = true := by simp; omega
          have hix := nums_index w.heap.size k hlt
          have hcell := nums_cell HX.out k hlt
          have hw1 := below_alloc (Below.refl wr.heap.size wr) (.cells #[.pointer (some ⟨w.heap.size, nOff k, none⟩), .int .i64 (nWhat k)] 65)
          have hcell1 := (hw1.cell (cell_blk hcell)).trans hcell
          have hp0 : (wr.alloc (.cells #[.pointer (some ⟨w.heap.size, nOff k, none⟩), .int .i64 (nWhat k)] 65)).cell? ⟨wr.heap.size, 0, none⟩ = some (.pointer (some ⟨w.heap.size, nOff k, none⟩)) := by simp
          have hp1 : (wr.alloc (.cells #[.pointer (some ⟨w.heap.size, nOff k, none⟩), .int .i64 (nWhat k)] 65)).cell? ⟨wr.heap.size, 1, none⟩ = some (.int .i64 (nWhat k)) := by simp
          have HX1 := Aside0.mk (blk_below HX.out hw1)
          have HB1 := Aside0.mk (HB.out.trans (hw1.mono HB.out.size))
          have HO1 := Aside0.mk (Kd.R_below HO.out hw1)
          have hrg := HWIT.out k hlt
          have hwn : IntKind.u64.wrap (nVal x k) = nVal x k := wrap_u64 _ (by omega) (by omega)
          obtain ⟨A1, c1, e1, hc1, hr1⟩ := R_C HO1.out
          cases e1
          have hbl := bodyN_len own x k hk HWIT.out
          have hvr := bits_Varint _ A1 c1 (bodyN own x k) (nVal x k).toNat hr1 hc1 (by omega) (by omega)
          rw [Int.toNat_of_nonneg hrg.1] at hvr
          have HVR := Aside0.mk hvr
          have HS : Aside0 (bodyN own x (k + 1) = bodyN own x k ++ nB own x k) := ⟨rfl⟩
          have HNB : Aside0 (nB own x k = if bits .and .i64 own (nWhat k) != 0 then vEnc (nVal x k).toNat else []) := ⟨rfl⟩
          have HRG := Aside0.mk hrg
          clear hw1 HX HB HO hcell hvr hr1 hc1 hbl hrg
          generalize nB own x k = nb at *
          generalize nVal x k = n at *
          generalize nWhat k = what at *
          generalize nOff k = off at *
          generalize bodyN own x k = row at *
          go_upto_if 35 with fail
          clear hix
          generalize wr.alloc (.cells #[.pointer (some ⟨w.heap.size, off, none⟩), .int .i64 what] 65) = W1 at *
          cases h1 : bits .and .i64 own what != 0
          · go_wp2_with fail
            go_roundw
            case rel => exact ⟨k + 1, by omega, by go_num, ⟨by rw [HS.out, HNB.out, h1]; simpa using HO1.out⟩, HX1, HB1⟩
            case measure => (simp [intOf]; omega)
          · go_wp2_with (first | (go_at_call 34; refine HVR.out.mono ?_; rintro en w2 ⟨v2, rfl, hv, hb⟩; have HO2 := Aside0.mk (Kd.R_lower hv HB1.out.size); have HX2 := Aside0.mk (blk_below HX1.out hb); have HB2 := Aside0.mk (HB1.out.trans (hb.mono HB1.out.size)); clear hv hb))
            go_roundw
            case rel => exact ⟨k + 1, by omega, by go_num, ⟨by rw [HS.out, HNB.out, h1, if_pos rfl]; exact HO2.out⟩, HX2, HB2⟩
            case measure => (simp [intOf]; omega)
        · have hb : decide ((k : Int) < 3) = false := by simp; omega
          obtain rfl : k = 3 := by omega
          go_wp2_with fail
          go_meet
          exact ⟨HO, HX, HB⟩
    case rest =>
      clear HO3 HX3 HB3
      obtain ⟨HO, HX, HB⟩ := hcut
      have HRL := Aside0.mk (bodyN_len own x 3 (Nat.le_refl _) HWIT.out)
      have HBO : Aside0 (bodyO own x = bodyN own x 3 ++ (if bits .and .i64 own 4 != 0 then entB x.f4 else []) ++ (if bits .and .i64 own 8 != 0 then vEnc (rowB x.f5).length ++ rowB x.f5 else [])) := ⟨rfl⟩
      generalize bodyN own x 3 = row at *
      go_upto_if 46 with fail
      go_cut [6] (fun s6 wx => ∃ row2 : List Int, Aside0 (row2 = row ++ (if bits .and .i64 own 4 != 0 then entB x.f4 else [])) ∧ Aside0 (row2.length ≤ 203) ∧ Aside0 (Kd.R (Kd.int .u8) 5 wx w.heap.size (fun _ => True) s6 row2) ∧ Aside0 (wx.heap[w.heap.size]? = some (.cells (recC x (.slice A x.f4.f2.f4.length c) (.slice B x.f5.length d)) 41 (0, 0))) ∧ Aside0 (Below w.heap.size w wx))
      case first =>
        cases h4 : bits .and .i64 own 4 != 0
        · go_wp2_with fail
          go_meet
          exact ⟨row, ⟨by simp [h4]⟩, ⟨by have := HRL.out; omega⟩, HO, HX, HB⟩
        · have hent := HENT.out h4
          have hee : entE x.f4 = 0 := by unfold entE; rw [hent]; rfl
          have her : entR x.f4 = entB x.f4 := by unfold entR; rw [hent]; rfl
          have hbt := entry_Bytes _ A c x.f4 (HG.out.keep HB.out HG.out.lt) (Kd.C_below HA.out HB.out) HC.out HRW.out.1
          rw [hee, her] at hbt
          have HBT := Aside0.mk hbt
          have HEL := Aside0.mk (entB_len x.f4 hent HRW.out.1)
          obtain ⟨⟨q4, q5, q6, q7, q8, q9, q10⟩, _⟩ : (wc.cell? ⟨w.heap.size, 4, none⟩ = some (.int .i64 x.f4.f0) ∧ wc.cell? ⟨w.heap.size, 5, none⟩ = some (.int .i64 x.f4.f1) ∧ wc.cell? ⟨w.heap.size, 6, none⟩ = some (.int .i64 x.f4.f2.f0) ∧ wc.cell? ⟨w.heap.size, 7, none⟩ = some (.string x.f4.f2.f1) ∧ wc.cell? ⟨w.heap.size, 8, none⟩ = some (.int .i64 x.f4.f2.f2) ∧ wc.cell? ⟨w.heap.size, 9, none⟩ = some (.int .i64 x.f4.f2.f3) ∧ wc.cell? ⟨w.heap.size, 10, none⟩ = some (.slice A x.f4.f2.f4.length c)) ∧ True := ⟨⟨blk_cell HX.out 4, blk_cell HX.out 5, blk_cell HX.out 6, blk_cell HX.out 7, blk_cell HX.out 8, blk_cell HX.out 9, blk_cell HX.out 10⟩, trivial⟩
          clear hent hee her hbt
          go_wp2_with (first
            | (go_at_call 35; refine HBT.out.mono ?_; rintro en w2 ⟨v, rfl, hv, hb⟩; obtain ⟨A2, c2, e2, hc2, hr2⟩ := R_C hv; subst e2; have HR2 := Aside0.mk hr2; have HO2 := Aside0.mk (Kd.R_below HO.out hb); have HX2 := Aside0.mk (blk_below HX.out hb); have HB2 := Aside0.mk (HB.out.trans (hb.mono HB.out.size)); clear hv hb hr2 hc2)
            | ((with_reducible refine gate_builtin (b := .append) (xs := #[.tmp 53, .tmp 54]) rfl ?_); at_builtin; refine Kd.R_append_rows (Kd.int .u8) (w0 := w) w.heap.size rfl (.tmp 53) (.tmp 54) 22 5 (.int .u8 0) 1 rfl Tryd.underlying22 infou8 rfl (by decide) (by omega) (u6) (row) (entB x.f4) _ _ _ (fun _ => True) (fun _ => False) rfl rfl ?aO ?aR (fun _ _ h => h) (fun _ h => h.elim) ?aF ?aB ?aS ?aL ?_; (case aR => repeat (first | exact HR2.out | (with_reducible refine Kd.C_alloc ?_ _) | (with_reducible refine Kd.C_drewN ?_ _) | (with_reducible refine Kd.C_drew ?_))); (case aB => exact (by repeat (first | (with_reducible first | exact HB2.out | apply below_alloc | apply pw_below_drewN | apply below_drew1) | exact HB2.out))); (case aF => exact (fun _ _ => trivial)); (case aO => exact (by (with_reducible repeat (first | apply Kd.R_alloc | apply Kd.R_drewN | apply Kd.R_drew)); exact HO2.out)); (case aS => exact (below_size (by repeat (first | (with_reducible first | exact HB2.out | apply below_alloc | apply pw_below_drewN | apply below_drew1) | exact HB2.out)))); (case aL => (have h1 := HRL.out; have h2 := HEL.out; omega)); intro v7 w7 hv hw hg7 hat7; have HG7 := Aside0.mk hg7; clear hg7 hat7))
          go_meet
          have hne : ∀ k, some k = u6.ownBlock → k ≠ w.heap.size := fun k hk e => by
            obtain ⟨cl, hcl⟩ := Kd.R_typed HO2.out k hk.symm
            exact blk_ne hcl HX2.out (by decide) e
          exact ⟨_, ⟨by rw [h4]; rfl⟩, ⟨by have h1 := HRL.out; have h2 := HEL.out; rw [List.length_append]; omega⟩, ⟨hv⟩, ⟨blk_grown HX2.out HG7.out (fun e => hne _ e rfl)⟩, ⟨hw⟩⟩
      case rest =>
        clear HO HX HB HRL HENT
        obtain ⟨row2, HR2, HRL, HO, HX, HB⟩ := hcut
        go_upto_if 58 with fail
        go_cut [6] (fun s6 wx => ∃ row3 : List Int, Aside0 (row3 = row2 ++ (if bits .and .i64 own 8 != 0 then vEnc (rowB x.f5).length ++ rowB x.f5 else [])) ∧ Aside0 (row3.length ≤ 4591) ∧ Aside0 (Kd.R (Kd.int .u8) 5 wx w.heap.size (fun _ => True) s6 row3) ∧ Aside0 (Below w.heap.size w wx))
        case first =>
          cases h8 : bits .and .i64 own 8 != 0
          · go_wp2_with fail
            go_meet
            exact ⟨row2, ⟨by simp [h8]⟩, ⟨by have := HRL.out; omega⟩, HO, HB⟩
          · have hr1 := HROWS.out.1
            have hee : rowE x.f5 = 0 := by unfold rowE; rw [hr1]; rfl
            have her : rowR x.f5 = rowB x.f5 := by unfold rowR; rw [hr1]; rfl
            have hbt := entry_Row _ B d x.f5 (HG.out.keep HB.out HG.out.lt) (Kd.C_below HBB.out HB.out) HD.out HRW.out.2 (by have := HROWS.out.2; omega)
            rw [hee, her] at hbt
            have HBT := Aside0.mk hbt
            have HEL := Aside0.mk (rowB_len x.f5 hr1 HRW.out.2 HROWS.out.2)
            have q11 : wc.cell? ⟨w.heap.size, 11, none⟩ = some (.slice B x.f5.length d) := blk_cell HX.out 11
            clear hr1 hee her hbt
            go_wp2_with (first
              | (go_at_call 36; refine HBT.out.mono ?_; rintro en w2 ⟨v, rfl, hv, hb⟩; obtain ⟨A2, c2, e2, hc2, hr2⟩ := R_C hv; subst e2; obtain ⟨A3, c3, e3, hc3, hr3⟩ := R_C (Kd.R_below HO.out hb); subst e3; have HTX := Aside0.mk (bits_Text w2 A3 c3 row2 A2 c2 (rowB x.f5) hr3 hc3 hr2 hc2 (by have h1 := HRL.out; have h2 := HEL.out; omega)); have HB2 := Aside0.mk (HB.out.trans (hb.mono HB.out.size)); clear hv hb hr2 hc2 hr3 hc3)
              | (go_at_call 37; refine HTX.out.mono ?_; rintro en w3 ⟨v, rfl, hv, hb⟩; have HO3 := Aside0.mk (Kd.R_lower hv HB2.out.size); have HB3 := Aside0.mk (HB2.out.trans (hb.mono HB2.out.size)); clear hv hb))
            go_meet
            exact ⟨_, ⟨by rw [h8]; rfl⟩, ⟨by have h1 := HRL.out; have h2 := HEL.out; have h3 := vEnc_ten (rowB x.f5).length (by omega); simp only [List.length_append]; omega⟩, HO3, HB3⟩
        case rest =>
          clear HO HX HB
          obtain ⟨row3, HR3, HRL3, HO, HB⟩ := hcut
          have hbd : body x = row3 := by rw [HBODY.out, HBO.out, HR3.out, HR2.out]
          have hrb : recB x = sealed row3 ++ beB 4 (crcI (sealed row3)).toNat := by unfold recB; rw [hbd]
          have HRB := Aside0.mk hrb
          clear hbd hrb HR3 HR2 HBO HBODY HRL HWIT HROWS
          obtain ⟨A1, c1, e1, hc1, hr1⟩ := R_C HO.out
          cases e1
          have HR1 := Aside0.mk hr1
          have hw1 : IntKind.u64.wrap (row3.length : Int) = (row3.length : Int) := wrap_u64_nat _ (by have := HRL3.out; omega)
          obtain ⟨n2, hn2⟩ : ∃ n2 : Nat, n2 = 65535 - row3.length := ⟨_, rfl⟩
          have e2 : (65535 : Int) - (row3.length : Int) = (n2 : Int) := by have := HRL3.out; omega
          have hw2 : IntKind.u64.wrap (n2 : Int) = (n2 : Int) := wrap_u64_nat _ (by omega)
          have HN2 := Aside0.mk hn2
          have HN2L := Aside0.mk (show n2 < 256 ^ 2 by simp; omega)
          have hp1 : Calls Tryd.prog 38 #[.slice none 0 0, .int .i64 16, .int .u64 (row3.length : Int)] wc fun en w' => ∃ v, en = .returned (.tuple #[v, .int .i64 0]) ∧ Kd.R (Kd.int .u8) 5 w' wc.heap.size (fun _ => True) v (beB 2 row3.length) ∧ Below wc.heap.size wc w' :=
            bits_Put 2 (.inr (.inl rfl)) wc none 0 [] row3.length (Kd.C_nil _ _) (Nat.le_refl _) (by simp) (by have := HRL3.out; simp; omega) 16 rfl
          have HP1 := Aside0.mk hp1
          clear hr1 hc1 hp1 hn2
          go_wp2_with (first
            | (go_at_call_of 38 (Value.slice none 0 0); refine HP1.out.mono ?_; rintro en w2 ⟨v, rfl, hv, hb⟩; obtain ⟨A2, c2, e3, hc2, hr2⟩ := R_C hv; subst e3; have HB2 := Aside0.mk (HB.out.trans (hb.mono HB.out.size)); have HR2 := Aside0.mk (Kd.C_below HR1.out hb); have HP2 := Aside0.mk (bits_Put 2 (.inr (.inl rfl)) w2 A2 c2 (beB 2 row3.length) n2 hr2 hc2 (by rw [beB_len]; omega) HN2L.out 16 rfl); clear hv hb hr2 hc2)
            | (go_at_call_of 38 (Value.slice A2 (beB 2 row3.length).length c2); refine HP2.out.mono ?_; rintro en w3 ⟨v3, rfl, hv, hb⟩; have HO3 := Aside0.mk (Kd.R_lower hv HB2.out.size); have HB3 := Aside0.mk (HB2.out.trans (hb.mono HB2.out.size)); have HR3 := Aside0.mk (Kd.C_below HR2.out hb); clear hv hb)
            | ((with_reducible refine gate_builtin (b := .append) (xs := #[.tmp 84, .tmp 85]) rfl ?_); at_builtin; refine Kd.R_append_rows (Kd.int .u8) (w0 := w) w.heap.size rfl (.tmp 84) (.tmp 85) 22 5 (.int .u8 0) 1 rfl Tryd.underlying22 infou8 rfl (by decide) (by omega) (v3) (beB 2 row3.length ++ beB 2 n2) (row3) _ _ _ (fun _ => True) (fun _ => False) rfl rfl ?aO ?aR (fun _ _ h => h) (fun _ h => h.elim) ?aF ?aB ?aS ?aL ?_; (case aR => repeat (first | exact HR3.out | (with_reducible refine Kd.C_alloc ?_ _) | (with_reducible refine Kd.C_drewN ?_ _) | (with_reducible refine Kd.C_drew ?_))); (case aB => exact (by repeat (first | (with_reducible first | exact HB3.out | apply below_alloc | apply pw_below_drewN | apply below_drew1) | exact HB3.out))); (case aF => exact (fun _ _ => trivial)); (case aO => exact (by (with_reducible repeat (first | apply Kd.R_alloc | apply Kd.R_drewN | apply Kd.R_drew)); exact HO3.out)); (case aS => exact (below_size (by repeat (first | (with_reducible first | exact HB3.out | apply below_alloc | apply pw_below_drewN | apply below_drew1) | exact HB3.out)))); (case aL => (have h1 := HRL3.out; simp only [List.length_append, beB_len]; omega)); intro v7 w7 hv hw hg7 hat7; clear hg7 hat7)
            | (go_at_call 27; obtain ⟨L, hL⟩ : ∃ L, L = beB 2 row3.length ++ beB 2 n2 ++ row3 := ⟨_, rfl⟩; rw [← hL] at hv; have HLL := Aside0.mk hL; have hll : L.length ≤ 4600 := (by have h1 := HRL3.out; rw [hL]; simp only [List.length_append, beB_len]; omega); clear hL; obtain ⟨A5, c5, e5, hc5, hr5⟩ := R_C hv; subst e5; refine (sum_Crc.calls A5 c5 L _ _ hr5 hc5 rfl).mono ?_; rintro en w8 ⟨rfl, hb⟩; have HB8 := Aside0.mk (hw.trans (hb.mono hw.size)); have hcr := crcI_range L; have hcw : IntKind.u64.wrap (crcI L) = crcI L := wrap_u64 _ (by omega) (by omega); have hp3 := bits_Put 4 (.inr (.inr rfl)) w8 A5 c5 L (crcI L).toNat (Kd.C_below hr5 hb) hc5 (by omega) (by simp; omega) 32 rfl; rw [Int.toNat_of_nonneg hcr.1] at hp3; have HP3 := Aside0.mk hp3; clear hv hw hb hr5 hc5 hcr hp3 hll)
            | (go_at_call 38; refine HP3.out.mono ?_; rintro en w9 ⟨v9, rfl, hv, hb⟩; have HO9 := Aside0.mk (Kd.R_lower hv HB8.out.size); have HB9 := Aside0.mk (HB8.out.trans (hb.mono HB8.out.size)); clear hv hb))
          go_ret2
          refine ⟨_, by rw [HE.out]; rfl, ?_, HB9.out⟩
          have h := HO9.out
          have hl : L = sealed row3 := by rw [HLL.out, HN2.out]; rfl
          rw [hl] at h
          rw [HR.out, HRB.out]
          exact h
end Go.Proofs.YtmeblifbkhpdnaaDoor.K
namespace Go.Proofs.YtmeblifbkhpdnaaDoor.K
set_option linter.unusedVariables false
set_option linter.unusedSimpArgs false
open Go.RowKit Go.Proofs.YtmeblifbkhpdnaaDoorW.PrintWords Go.Proofs.YtmeblifbkhpdnaaDoorW.PrintLast Go.Proofs.YtmeblifbkhpdnaaDoorW.PrintMore
def sameN (s : Bool) (a b : Rec) : Nat → Bool
  | 0 => s
  | k + 1 => sameN s a b k && (nVal a k == nVal b k)
def sameRec (a b : Rec) : Bool := sameN ((a.f0 == b.f0) && (sameEnt a.f4 b.f4 && eqBy sameEnt a.f5 b.f5)) a b 3
theorem sameRec_iff (a b : Rec) : sameRec a b = true ↔ a = b := by
  unfold sameRec
  obtain ⟨a0, a1, a2, a3, a4, a5⟩ := a
  obtain ⟨b0, b1, b2, b3, b4, b5⟩ := b
  simp [sameN, nVal, sameEnt_iff, eqBy_iff sameEnt_iff]
  constructor
  · rintro ⟨⟨⟨⟨h0, h4, h5⟩, h3⟩, h1⟩, h2⟩
    exact ⟨h0, h1, h2, h3, h4, h5⟩
  · rintro ⟨h0, h1, h2, h3, h4, h5⟩
    exact ⟨⟨⟨⟨h0, h4, h5⟩, h3⟩, h1⟩, h2⟩
set_option maxRecDepth 20000 in
set_option maxHeartbeats 8000000 in
theorem record_Same (w : World) (A B : Option Addr) (c d : Nat) (a : Rec) (A' B' : Option Addr) (c' d' : Nat) (b : Rec) (hA : kLine.C w A a.f4.f2.f4.length a.f4.f2.f4) (hc : a.f4.f2.f4.length ≤ c) (hB : kEnt.C w B a.f5.length a.f5) (hd : a.f5.length ≤ d)
    (hA' : kLine.C w A' b.f4.f2.f4.length b.f4.f2.f4) (hc' : b.f4.f2.f4.length ≤ c') (hB' : kEnt.C w B' b.f5.length b.f5) (hd' : b.f5.length ≤ d') :
    Calls Tryd.prog 19 #[recV a (.slice A a.f4.f2.f4.length c) (.slice B a.f5.length d), recV b (.slice A' b.f4.f2.f4.length c') (.slice B' b.f5.length d')] w fun en w' => en = .returned (.bool (sameRec a b)) ∧ Below w.heap.size w w' := by
  have hw1 := below_alloc (Below.refl w.heap.size w) (.cells (recC a (.slice A a.f4.f2.f4.length c) (.slice B a.f5.length d)) 41)
  have hw2 := below_alloc (Below.refl (w.alloc (.cells (recC a (.slice A a.f4.f2.f4.length c) (.slice B a.f5.length d)) 41)).heap.size (w.alloc (.cells (recC a (.slice A a.f4.f2.f4.length c) (.slice B a.f5.length d)) 41))) (.cells (recC b (.slice A' b.f4.f2.f4.length c') (.slice B' b.f5.length d')) 41)
  have HB0 := Aside0.mk (hw1.trans (hw2.mono hw1.size))
  have HXa := Aside0.mk (blk_below (blk_new w (.cells (recC a (.slice A a.f4.f2.f4.length c) (.slice B a.f5.length d)) 41)) hw2)
  have hxb := blk_new (w.alloc (.cells (recC a (.slice A a.f4.f2.f4.length c) (.slice B a.f5.length d)) 41)) (.cells (recC b (.slice A' b.f4.f2.f4.length c') (.slice B' b.f5.length d')) 41)
  rw [World.size_alloc] at hxb
  have HXb := Aside0.mk hxb
  have HSE := Aside0.mk (entry_Same' _ A A' c c' a.f4 b.f4 (Kd.C_below hA HB0.out) hc (Kd.C_below hA' HB0.out) hc')
  have HSR := Aside0.mk (fun W (hb : Below w.heap.size w W) => entry_SameRow W B B' d d' a.f5 b.f5 (Kd.C_below hB hb) hd (Kd.C_below hB' hb) hd')
  clear hA hc hB hd hA' hc' hB' hd' hw1 hw2 hxb
  have hsm : sameRec a b = sameN ((a.f0 == b.f0) && (sameEnt a.f4 b.f4 && eqBy sameEnt a.f5 b.f5)) a b 3 := rfl
  have HSM := Aside0.mk hsm
  clear hsm
  go_enter Tryd.func19, Tryd.ntmps19
  go_upto_region 1 with fail
  generalize (w.alloc (.cells (recC a (.slice A a.f4.f2.f4.length c) (.slice B a.f5.length d)) 41)).alloc (.cells (recC b (.slice A' b.f4.f2.f4.length c') (.slice B' b.f5.length d')) 41) = W0 at *
  go_cut [5] (fun s5 wx => s5 = .bool ((a.f0 == b.f0) && (sameEnt a.f4 b.f4 && eqBy sameEnt a.f5 b.f5)) ∧ Aside0 (wx.heap[w.heap.size]? = some (.cells (recC a (.slice A a.f4.f2.f4.length c) (.slice B a.f5.length d)) 41 (0, 0))) ∧ Aside0 (wx.heap[w.heap.size + 1]? = some (.cells (recC b (.slice A' b.f4.f2.f4.length c') (.slice B' b.f5.length d')) 41 (0, 0))) ∧ Aside0 (Below w.heap.size w wx))
  case first =>
    have q0 : W0.cell? ⟨w.heap.size, 0, none⟩ = some (.int .i64 a.f0) := blk_cell HXa.out 0
    have q4 : W0.cell? ⟨w.heap.size, 4, none⟩ = some (.int .i64 a.f4.f0) := blk_cell HXa.out 4
    have q5 : W0.cell? ⟨w.heap.size, 5, none⟩ = some (.int .i64 a.f4.f1) := blk_cell HXa.out 5
    have q6 : W0.cell? ⟨w.heap.size, 6, none⟩ = some (.int .i64 a.f4.f2.f0) := blk_cell HXa.out 6
    have q7 : W0.cell? ⟨w.heap.size, 7, none⟩ = some (.string a.f4.f2.f1) := blk_cell HXa.out 7
    have q8 : W0.cell? ⟨w.heap.size, 8, none⟩ = some (.int .i64 a.f4.f2.f2) := blk_cell HXa.out 8
    have q9 : W0.cell? ⟨w.heap.size, 9, none⟩ = some (.int .i64 a.f4.f2.f3) := blk_cell HXa.out 9
    have q10 : W0.cell? ⟨w.heap.size, 10, none⟩ = some (.slice A a.f4.f2.f4.length c) := blk_cell HXa.out 10
    have p0 : W0.cell? ⟨w.heap.size + 1, 0, none⟩ = some (.int .i64 b.f0) := blk_cell HXb.out 0
    have p4 : W0.cell? ⟨w.heap.size + 1, 4, none⟩ = some (.int .i64 b.f4.f0) := blk_cell HXb.out 4
    have p5 : W0.cell? ⟨w.heap.size + 1, 5, none⟩ = some (.int .i64 b.f4.f1) := blk_cell HXb.out 5
    have p6 : W0.cell? ⟨w.heap.size + 1, 6, none⟩ = some (.int .i64 b.f4.f2.f0) := blk_cell HXb.out 6
    have p7 : W0.cell? ⟨w.heap.size + 1, 7, none⟩ = some (.string b.f4.f2.f1) := blk_cell HXb.out 7
    have p8 : W0.cell? ⟨w.heap.size + 1, 8, none⟩ = some (.int .i64 b.f4.f2.f2) := blk_cell HXb.out 8
    have p9 : W0.cell? ⟨w.heap.size + 1, 9, none⟩ = some (.int .i64 b.f4.f2.f3) := blk_cell HXb.out 9
    have p10 : W0.cell? ⟨w.heap.size + 1, 10, none⟩ = some (.slice A' b.f4.f2.f4.length c') := blk_cell HXb.out 10
    cases h0 : a.f0 == b.f0
    · go_wp2_with fail
      go_meet
      exact ⟨by first | rfl | simp [h0], HXa, HXb, HB0⟩
    · generalize sameEnt a.f4 b.f4 = se at *
      generalize eqBy sameEnt a.f5 b.f5 = sr at *
      cases se
      · go_wp2_with (first | (go_at_call 42; refine HSE.out.mono ?_; rintro en w2 ⟨rfl, hb⟩; have HXa2 := Aside0.mk (blk_below HXa.out hb); have HXb2 := Aside0.mk (blk_below HXb.out hb); have HB2 := Aside0.mk (HB0.out.trans (hb.mono HB0.out.size)); clear hb))
        go_meet
        exact ⟨by first | rfl | simp [h0], HXa2, HXb2, HB2⟩
      · go_wp2_with (first
          | (go_at_call 42; refine HSE.out.mono ?_; rintro en w2 ⟨rfl, hb⟩; have HXa2 := Aside0.mk (blk_below HXa.out hb); have HXb2 := Aside0.mk (blk_below HXb.out hb); have HB2 := Aside0.mk (HB0.out.trans (hb.mono HB0.out.size)); have g11 : w2.cell? ⟨w.heap.size, 11, none⟩ = some (.slice B a.f5.length d) := blk_cell HXa2.out 11; have h11 : w2.cell? ⟨w.heap.size + 1, 11, none⟩ = some (.slice B' b.f5.length d') := blk_cell HXb2.out 11; clear hb)
          | (go_at_call 49; refine (HSR.out w2 HB2.out).mono ?_; rintro en w3 ⟨rfl, hb⟩; have HXa3 := Aside0.mk (blk_below HXa2.out hb); have HXb3 := Aside0.mk (blk_below HXb2.out hb); have HB3 := Aside0.mk (HB2.out.trans (hb.mono HB2.out.size)); clear hb))
        go_meet
        exact ⟨by first | rfl | simp [h0], HXa3, HXb3, HB3⟩
  case rest =>
    clear HXa HXb HB0 HSE HSR
    obtain ⟨rfl, HXa, HXb, HB⟩ := hcut
    generalize ((a.f0 == b.f0) && (sameEnt a.f4 b.f4 && eqBy sameEnt a.f5 b.f5)) = s0 at *
    have HN1 := Aside0.mk (record_numbers wc (w.heap.size + 1))
    go_upto_block 0 with (first
      | (go_at_call 33; refine HN1.out.mono ?_; rintro en w2 ⟨rfl, hb⟩; clear HN1; have hal := below_alloc (Below.refl w2.heap.size w2) (.cells #[.pointer (some ⟨w.heap.size + 1, 3, none⟩), .int .i64 1, .pointer (some ⟨w.heap.size + 1, 1, none⟩), .int .i64 2, .pointer (some ⟨w.heap.size + 1, 2, none⟩), .int .i64 2] 66); have HXa2 := Aside0.mk (blk_below HXa.out (hb.trans (hal.mono hb.size))); have HXb2 := Aside0.mk (blk_below HXb.out (hb.trans (hal.mono hb.size))); have HXl2 := Aside0.mk (blk_new w2 (.cells #[.pointer (some ⟨w.heap.size + 1, 3, none⟩), .int .i64 1, .pointer (some ⟨w.heap.size + 1, 1, none⟩), .int .i64 2, .pointer (some ⟨w.heap.size + 1, 2, none⟩), .int .i64 2] 66)); have HB2 := Aside0.mk (HB.out.trans ((hb.trans (hal.mono hb.size)).mono HB.out.size)); clear hb hal)
      | (go_at_call 33; refine (record_numbers _ w.heap.size).mono ?_; rintro en w3 ⟨rfl, hb⟩; have HXa3 := Aside0.mk (blk_below HXa2.out hb); have HXb3 := Aside0.mk (blk_below HXb2.out hb); have HXl3 := Aside0.mk (blk_below HXl2.out hb); have HB3 := Aside0.mk (HB2.out.trans (hb.mono HB2.out.size)); clear hb))
    clear HXa HXb HB HXa2 HXb2 HXl2 HB2
    obtain ⟨gl, hgl⟩ : ∃ gl, gl = w2.heap.size := ⟨_, rfl⟩
    rw [← hgl] at HXl3 ⊢
    clear hgl
    go_wp2_with fail
    go_loopw [5, 30] (fun s5 v wr => ∃ k : Nat, k ≤ 3 ∧ v = .int .i64 (k : Int) ∧ s5 = .bool (sameN s0 a b k) ∧ Aside0 (wr.heap[w.heap.size]? = some (.cells (recC a (.slice A a.f4.f2.f4.length c) (.slice B a.f5.length d)) 41 (0, 0))) ∧ Aside0 (wr.heap[w.heap.size + 1]? = some (.cells (recC b (.slice A' b.f4.f2.f4.length c') (.slice B' b.f5.length d')) 41 (0, 0))) ∧ Aside0 (wr.heap[gl]? = some (.cells #[.pointer (some ⟨w.heap.size + 1, 3, none⟩), .int .i64 1, .pointer (some ⟨w.heap.size + 1, 1, none⟩), .int .i64 2, .pointer (some ⟨w.heap.size + 1, 2, none⟩), .int .i64 2] 66 (0, 0))) ∧ Aside0 (Below w.heap.size w wr)) (fun _ v _ => 3 - (intOf v).toNat)
    case atStart => exact ⟨0, by omega, rfl, rfl, HXa3, HXb3, HXl3, HB3⟩
    case round =>
      clear HXa3 HXb3 HXl3 HB3
      obtain ⟨k, hk, rfl, rfl, HXa, HXb, HXl, HB⟩ := hrel
      by_cases hlt : k < 3
      · have hb : decide ((k : Int) < 3) = true := by simp; omega
        have hix := nums_index w.heap.size k hlt
        have hca := nums_cell HXa.out k hlt
        have hcb := nums_cell HXb.out k hlt
        have hcl : wr.cell? ⟨gl, k * 2, none⟩ = some (.pointer (some ⟨w.heap.size + 1, nOff k, none⟩)) := by
          have : k = 0 ∨ k = 1 ∨ k = 2 := by omega
          rcases this with rfl | rfl | rfl
          · exact blk_cell HXl.out 0
          · exact blk_cell HXl.out 2
          · exact blk_cell HXl.out 4
        have hs : sameN s0 a b (k + 1) = (sameN s0 a b k && (nVal a k == nVal b k)) := rfl
        have HS := Aside0.mk hs
        clear hs
        have hw1 := below_alloc (Below.refl wr.heap.size wr) (.cells #[.pointer (some ⟨w.heap.size, nOff k, none⟩), .int .i64 (nWhat k)] 65)
        have hca1 := (hw1.cell (cell_blk hca)).trans hca
        have hcb1 := (hw1.cell (cell_blk hcb)).trans hcb
        have hcl1 := (hw1.cell (cell_blk hcl)).trans hcl
        have hp0 : (wr.alloc (.cells #[.pointer (some ⟨w.heap.size, nOff k, none⟩), .int .i64 (nWhat k)] 65)).cell? ⟨wr.heap.size, 0, none⟩ = some (.pointer (some ⟨w.heap.size, nOff k, none⟩)) := by simp
        have HXa1 := Aside0.mk (blk_below HXa.out hw1)
        have HXb1 := Aside0.mk (blk_below HXb.out hw1)
        have HXl1 := Aside0.mk (blk_below HXl.out hw1)
        have HB1 := Aside0.mk (HB.out.trans (hw1.mono HB.out.size))
        clear hw1 HXa HXb HXl HB hca hcb hcl
        generalize sameN s0 a b k = ok at *
        generalize nVal a k = na at *
        generalize nVal b k = nb at *
        generalize nWhat k = what at *
        generalize nOff k = off at *
        go_upto_region 6 with fail
        clear hix
        generalize wr.alloc (.cells #[.pointer (some ⟨w.heap.size, off, none⟩), .int .i64 what] 65) = W1 at *
        cases ok
        · go_quiet (fail)
          go_wp2_with fail
          go_roundw
          case rel => exact ⟨k + 1, by omega, by go_num, by rw [HS.out]; rfl, ⟨blk_drewN HXa1.out _⟩, ⟨blk_drewN HXb1.out _⟩, ⟨blk_drewN HXl1.out _⟩, ⟨pw_below_drewN HB1.out _⟩⟩
          case measure => (simp [intOf]; omega)
        · have hk0 : (0 : Int) ≤ (k : Int) := by omega
          have hk3 : (k : Int) < 3 := by omega
          go_quiet (fail)
          go_wp2_with fail
          go_roundw
          case rel => exact ⟨k + 1, by omega, by go_num, by rw [HS.out]; rfl, ⟨blk_drewN HXa1.out _⟩, ⟨blk_drewN HXb1.out _⟩, ⟨blk_drewN HXl1.out _⟩, ⟨pw_below_drewN HB1.out _⟩⟩
          case measure => (simp [intOf]; omega)
      · have hb : decide ((k : Int) < 3) = false := by simp; omega
        obtain rfl : k = 3 := by omega
        go_wp2_with fail
        go_ret
        exact ⟨by rw [HSM.out]; rfl, HB.out⟩
end Go.Proofs.YtmeblifbkhpdnaaDoor.K
namespace Go.Proofs.YtmeblifbkhpdnaaDoor.K
set_option linter.unusedVariables false
set_option linter.unusedSimpArgs false
open Go.RowKit Go.Proofs.YtmeblifbkhpdnaaDoorW.PrintWords Go.Proofs.YtmeblifbkhpdnaaDoorW.PrintLast Go.Proofs.YtmeblifbkhpdnaaDoorW.PrintMore
def setN (r : Rec) (k : Nat) (n : Int) : Rec := if k = 0 then { r with f3 := n } else if k = 1 then { r with f1 := n } else { r with f2 := n }
def pNumsN (own : Int) (r0 : Rec) (x0 : List Int × Int) : Nat → Rec × List Int × Int
  | 0 => (r0, x0)
  | k + 1 => if bits .and .i64 own (nWhat k) != 0 then (setN (pNumsN own r0 x0 k).1 k (min (rVar (pNumsN own r0 x0 k).2.1 (pNumsN own r0 x0 k).2.2).1 9007199254740992), (rVar (pNumsN own r0 x0 k).2.1 (pNumsN own r0 x0 k).2.2).2) else pNumsN own r0 x0 k
def zRec (k : Int) : Rec := ⟨k, 0, 0, 0, zEnt, []⟩
def pRec1 (own : Int) (s : Rec × List Int × Int) : Option Rec :=
  if s.2.2 ≠ 0 then none else
  if bits .and .i64 own 4 != 0 then (if (pEnt s.2.1).2 = 0 ∧ recE { s.1 with f4 := (pEnt s.2.1).1 } = 0 then some { s.1 with f4 := (pEnt s.2.1).1 } else none) else
  if bits .and .i64 own 8 != 0 then (if (pRows (rText s.2.1 s.2.2).1).2 = 0 ∧ rEnd (rText s.2.1 s.2.2).2.1 (rText s.2.1 s.2.2).2.2 = 0 ∧ recE { s.1 with f5 := (pRows (rText s.2.1 s.2.2).1).1 } = 0 then some { s.1 with f5 := (pRows (rText s.2.1 s.2.2).1).1 } else none) else
  if rEnd s.2.1 s.2.2 = 0 ∧ recE s.1 = 0 then some s.1 else none
def pRec (l : List Int) : Option Rec := pRec1 (rHas (rNum 1 l 0).1) (pNumsN (rHas (rNum 1 l 0).1) (zRec (rNum 1 l 0).1) (rNum 1 l 0).2 3)
def RSt (w0 : World) (b g : Nat) (r : Rec) (v u : Value) (x : List Int × Int) (l0 : List Int) (W : World) : Prop :=
  W.heap[b]? = some (.cells (recC r v u) 41 (0, 0)) ∧ Rd W g x.1 x.2 ∧ b ≠ g ∧ w0.heap.size ≤ b ∧ w0.heap.size ≤ g ∧ Below w0.heap.size w0 W ∧ x.1 <:+ l0
section
variable {w0 W W' : World} {b g : Nat} {r : Rec} {v u : Value} {x y : List Int × Int} {l0 : List Int}
theorem RSt.box (h : RSt w0 b g r v u x l0 W) : W.heap[b]? = some (.cells (recC r v u) 41 (0, 0)) := h.1
theorem RSt.rd (h : RSt w0 b g r v u x l0 W) : Rd W g x.1 x.2 := h.2.1
theorem RSt.ne (h : RSt w0 b g r v u x l0 W) : b ≠ g := h.2.2.1
theorem RSt.lb (h : RSt w0 b g r v u x l0 W) : w0.heap.size ≤ b := h.2.2.2.1
theorem RSt.lg (h : RSt w0 b g r v u x l0 W) : w0.heap.size ≤ g := h.2.2.2.2.1
theorem RSt.low (h : RSt w0 b g r v u x l0 W) : Below w0.heap.size w0 W := h.2.2.2.2.2.1
theorem RSt.suf (h : RSt w0 b g r v u x l0 W) : x.1 <:+ l0 := h.2.2.2.2.2.2
theorem RSt.lt (h : RSt w0 b g r v u x l0 W) : b < W.heap.size ∧ g < W.heap.size := ⟨blk_lt h.box, h.rd.lt⟩
theorem RSt.call (h : RSt w0 b g r v u x l0 W) {l : List Int} {e : Int} (hr : Rd W' g l e) (hy : l <:+ x.1) (hg : W.grownBy W' (some g)) : RSt w0 b g r v u (l, e) l0 W' :=
  ⟨blk_grown h.box hg (fun q => h.ne (Option.some.inj q)), hr, h.ne, h.lb, h.lg, below_grownG h.low hg h.lg, hy.trans h.suf⟩
theorem RSt.below (h : RSt w0 b g r v u x l0 W) (hb : Below W.heap.size W W') : RSt w0 b g r v u x l0 W' :=
  ⟨blk_below h.box hb, h.rd.below hb, h.ne, h.lb, h.lg, h.low.trans (hb.mono h.low.size), h.suf⟩
theorem RSt.put (h : RSt w0 b g r v u x l0 W) {r' : Rec} {v' u' : Value} (hbx : W'.heap[b]? = some (.cells (recC r' v' u') 41 (0, 0))) (hgr : W.grownBy W' (some b)) : RSt w0 b g r' v' u' x l0 W' :=
  ⟨hbx, h.rd.keep hgr h.ne h.box (by decide), h.ne, h.lb, h.lg, below_grownG h.low hgr h.lb, h.suf⟩
theorem RSt.set0 (h : RSt w0 b g r v u x l0 W) (z : Int) : RSt w0 b g { r with f0 := z } v u x l0 (W.setCell ⟨b, 0, none⟩ (.int .i64 z)) :=
  h.put (blk_put h.box 0 _ rfl) (grown_set (World.grownBy.refl W _))
theorem RSt.setN (h : RSt w0 b g r v u x l0 W) (k : Nat) (hk : k < 3) (z : Int) : RSt w0 b g (setN r k z) v u x l0 (W.setCell ⟨b, nOff k, none⟩ (.int .i64 z)) := by
  have : k = 0 ∨ k = 1 ∨ k = 2 := by omega
  rcases this with rfl | rfl | rfl
  · exact h.put (blk_put h.box 3 _ rfl) (grown_set (World.grownBy.refl W _))
  · exact h.put (blk_put h.box 1 _ rfl) (grown_set (World.grownBy.refl W _))
  · exact h.put (blk_put h.box 2 _ rfl) (grown_set (World.grownBy.refl W _))
theorem box12 {y0 y1 y2 y3 y4 y5 y6 y7 y8 y9 y10 y11 : Value} {t : TypeId} (h : W.heap[b]? = some (.cells #[y0, y1, y2, y3, y4, y5, y6, y7, y8, y9, y10, y11] t (0, 0))) : (W.cell? ⟨b, 0, none⟩ = some y0 ∧ W.cell? ⟨b, 1, none⟩ = some y1 ∧ W.cell? ⟨b, 2, none⟩ = some y2 ∧ W.cell? ⟨b, 3, none⟩ = some y3 ∧ W.cell? ⟨b, 4, none⟩ = some y4 ∧ W.cell? ⟨b, 5, none⟩ = some y5 ∧ W.cell? ⟨b, 6, none⟩ = some y6 ∧ W.cell? ⟨b, 7, none⟩ = some y7 ∧ W.cell? ⟨b, 8, none⟩ = some y8 ∧ W.cell? ⟨b, 9, none⟩ = some y9 ∧ W.cell? ⟨b, 10, none⟩ = some y10 ∧ W.cell? ⟨b, 11, none⟩ = some y11) ∧
    (W.frozen? ⟨b, 0, none⟩ = false ∧ W.frozen? ⟨b, 1, none⟩ = false ∧ W.frozen? ⟨b, 2, none⟩ = false ∧ W.frozen? ⟨b, 3, none⟩ = false ∧ W.frozen? ⟨b, 4, none⟩ = false ∧ W.frozen? ⟨b, 5, none⟩ = false ∧ W.frozen? ⟨b, 6, none⟩ = false ∧ W.frozen? ⟨b, 7, none⟩ = false ∧ W.frozen? ⟨b, 8, none⟩ = false ∧ W.frozen? ⟨b, 9, none⟩ = false ∧ W.frozen? ⟨b, 10, none⟩ = false ∧ W.frozen? ⟨b, 11, none⟩ = false) :=
  ⟨⟨blk_cell h 0, blk_cell h 1, blk_cell h 2, blk_cell h 3, blk_cell h 4, blk_cell h 5, blk_cell h 6, blk_cell h 7, blk_cell h 8, blk_cell h 9, blk_cell h 10, blk_cell h 11⟩,
    ⟨blk_frozen h 0, blk_frozen h 1, blk_frozen h 2, blk_frozen h 3, blk_frozen h 4, blk_frozen h 5, blk_frozen h 6, blk_frozen h 7, blk_frozen h 8, blk_frozen h 9, blk_frozen h 10, blk_frozen h 11⟩⟩
theorem RSt.setE (h : RSt w0 b g r v u x l0 W) (y : Ent) (v' : Value) : RSt w0 b g { r with f4 := y } v' u x l0 (((((((W.setCell ⟨b, 4, none⟩ (.int .i64 y.f0)).setCell ⟨b, 5, none⟩ (.int .i64 y.f1)).setCell ⟨b, 6, none⟩ (.int .i64 y.f2.f0)).setCell ⟨b, 7, none⟩ (.string y.f2.f1)).setCell ⟨b, 8, none⟩ (.int .i64 y.f2.f2)).setCell ⟨b, 9, none⟩ (.int .i64 y.f2.f3)).setCell ⟨b, 10, none⟩ v') := by
  have h0 := blk_put h.box 4 (.int .i64 y.f0) (cs' := #[.int .i64 r.f0, .int .i64 r.f1, .int .i64 r.f2, .int .i64 r.f3, .int .i64 y.f0, .int .i64 r.f4.f1, .int .i64 r.f4.f2.f0, .string r.f4.f2.f1, .int .i64 r.f4.f2.f2, .int .i64 r.f4.f2.f3, v, u]) rfl
  have h1 := blk_put h0 5 (.int .i64 y.f1) (cs' := #[.int .i64 r.f0, .int .i64 r.f1, .int .i64 r.f2, .int .i64 r.f3, .int .i64 y.f0, .int .i64 y.f1, .int .i64 r.f4.f2.f0, .string r.f4.f2.f1, .int .i64 r.f4.f2.f2, .int .i64 r.f4.f2.f3, v, u]) rfl
  have h2 := blk_put h1 6 (.int .i64 y.f2.f0) (cs' := #[.int .i64 r.f0, .int .i64 r.f1, .int .i64 r.f2, .int .i64 r.f3, .int .i64 y.f0, .int .i64 y.f1, .int .i64 y.f2.f0, .string r.f4.f2.f1, .int .i64 r.f4.f2.f2, .int .i64 r.f4.f2.f3, v, u]) rfl
  have h3 := blk_put h2 7 (.string y.f2.f1) (cs' := #[.int .i64 r.f0, .int .i64 r.f1, .int .i64 r.f2, .int .i64 r.f3, .int .i64 y.f0, .int .i64 y.f1, .int .i64 y.f2.f0, .string y.f2.f1, .int .i64 r.f4.f2.f2, .int .i64 r.f4.f2.f3, v, u]) rfl
  have h4 := blk_put h3 8 (.int .i64 y.f2.f2) (cs' := #[.int .i64 r.f0, .int .i64 r.f1, .int .i64 r.f2, .int .i64 r.f3, .int .i64 y.f0, .int .i64 y.f1, .int .i64 y.f2.f0, .string y.f2.f1, .int .i64 y.f2.f2, .int .i64 r.f4.f2.f3, v, u]) rfl
  have h5 := blk_put h4 9 (.int .i64 y.f2.f3) (cs' := #[.int .i64 r.f0, .int .i64 r.f1, .int .i64 r.f2, .int .i64 r.f3, .int .i64 y.f0, .int .i64 y.f1, .int .i64 y.f2.f0, .string y.f2.f1, .int .i64 y.f2.f2, .int .i64 y.f2.f3, v, u]) rfl
  have h6 := blk_put h5 10 v' (cs' := #[.int .i64 r.f0, .int .i64 r.f1, .int .i64 r.f2, .int .i64 r.f3, .int .i64 y.f0, .int .i64 y.f1, .int .i64 y.f2.f0, .string y.f2.f1, .int .i64 y.f2.f2, .int .i64 y.f2.f3, v', u]) rfl
  exact h.put h6 (grown_set (grown_set (grown_set (grown_set (grown_set (grown_set (grown_set (World.grownBy.refl W _))))))))
theorem RSt.setL (h : RSt w0 b g r v u x l0 W) (ys : List Ent) (u' : Value) : RSt w0 b g { r with f5 := ys } v u' x l0 (W.setCell ⟨b, 11, none⟩ u') :=
  h.put (blk_put h.box 11 _ rfl) (grown_set (World.grownBy.refl W _))
abbrev put12 (W : World) (b : Nat) (v0 v1 v2 v3 v4 v5 v6 v7 v8 v9 v10 v11 : Value) : World := (((((((((((W.setCell ⟨b, 0, none⟩ v0).setCell ⟨b, 1, none⟩ v1).setCell ⟨b, 2, none⟩ v2).setCell ⟨b, 3, none⟩ v3).setCell ⟨b, 4, none⟩ v4).setCell ⟨b, 5, none⟩ v5).setCell ⟨b, 6, none⟩ v6).setCell ⟨b, 7, none⟩ v7).setCell ⟨b, 8, none⟩ v8).setCell ⟨b, 9, none⟩ v9).setCell ⟨b, 10, none⟩ v10).setCell ⟨b, 11, none⟩ v11
theorem put_same {i : Nat} {cs : Array Value} {t : TypeId} {z : Value} (h : W.heap[b]? = some (.cells cs t (0, 0))) (hz : cs[i]? = some z) : (W.setCell ⟨b, i, none⟩ z).heap[b]? = some (.cells cs t (0, 0)) :=
  blk_put h i z (by
    apply Array.ext
    · simp
    · intro j h1 h2
      rw [Array.getElem_setIfInBounds]
      split
      · rename_i e
        subst e
        rw [Array.getElem?_eq_getElem h2] at hz
        exact (Option.some.inj hz).symm
      · rfl)
theorem put12_box {v0 v1 v2 v3 v4 v5 v6 v7 v8 v9 v10 v11 : Value} {t : TypeId} (h : W.heap[b]? = some (.cells #[v0, v1, v2, v3, v4, v5, v6, v7, v8, v9, v10, v11] t (0, 0))) : (put12 W b v0 v1 v2 v3 v4 v5 v6 v7 v8 v9 v10 v11).heap[b]? = some (.cells #[v0, v1, v2, v3, v4, v5, v6, v7, v8, v9, v10, v11] t (0, 0)) := by
  have h0 := put_same (i := 0) (z := v0) h rfl
  have h1 := put_same (i := 1) (z := v1) h0 rfl
  have h2 := put_same (i := 2) (z := v2) h1 rfl
  have h3 := put_same (i := 3) (z := v3) h2 rfl
  have h4 := put_same (i := 4) (z := v4) h3 rfl
  have h5 := put_same (i := 5) (z := v5) h4 rfl
  have h6 := put_same (i := 6) (z := v6) h5 rfl
  have h7 := put_same (i := 7) (z := v7) h6 rfl
  have h8 := put_same (i := 8) (z := v8) h7 rfl
  have h9 := put_same (i := 9) (z := v9) h8 rfl
  have h10 := put_same (i := 10) (z := v10) h9 rfl
  exact put_same (i := 11) (z := v11) h10 rfl
theorem put12_grown (W : World) (b : Nat) (v0 v1 v2 v3 v4 v5 v6 v7 v8 v9 v10 v11 : Value) : W.grownBy (put12 W b v0 v1 v2 v3 v4 v5 v6 v7 v8 v9 v10 v11) (some b) :=
  grown_set (grown_set (grown_set (grown_set (grown_set (grown_set (grown_set (grown_set (grown_set (grown_set (grown_set (grown_set (World.grownBy.refl W _))))))))))))
end
set_option maxHeartbeats 4000000 in
theorem ret_rec {W : World} {b : Nat} {r : Rec} {v u : Value} {e : Bool} {tmps : Array Value} (h : W.heap[b]? = some (.cells (recC r v u) 41 (0, 0))) (h2 : tmps.getD 2 undef = .pointer (some ⟨b, 0, none⟩)) (h3 : tmps.getD 3 undef = .bool e) :
    (results Tryd.f26 tmps).run Tryd.prog W = .ok (.tuple #[recV r v u, .bool e]) W := by
  obtain ⟨⟨q0, q1, q2, q3, q4, q5, q6, q7, q8, q9, q10, q11⟩, _⟩ := box12 h
  rw [results_cell_tmp (p := 2) (u := 3) (ty := 41) rfl, h2, h3]
  simp [go_sem, q0, q1, q2, q3, q4, q5, q6, q7, q8, q9, q10, q11]
end Go.Proofs.YtmeblifbkhpdnaaDoor.K
namespace Go.Proofs.YtmeblifbkhpdnaaDoor.K
set_option linter.unusedVariables false
set_option linter.unusedSimpArgs false
open Go.RowKit Go.Proofs.YtmeblifbkhpdnaaDoorW.PrintWords Go.Proofs.YtmeblifbkhpdnaaDoorW.PrintLast Go.Proofs.YtmeblifbkhpdnaaDoorW.PrintMore
theorem RSt.made {w w1 : World} {g : Nat} {l : List Int} (hr : Rd w1 g l 0) (hg : w.heap.size + 1 ≤ g)
    (hb : Below (w.heap.size + 1) (w.alloc (.cells (recC (zRec 0) (.slice none 0 0) (.slice none 0 0)) 41)) w1) : RSt w w.heap.size g (zRec 0) (.slice none 0 0) (.slice none 0 0) (l, 0) l w1 :=
  ⟨(hb.block _ (by omega)).trans (blk_new w _), hr, by omega, Nat.le_refl _, by omega, (below_alloc (Below.refl _ _) _).trans (hb.mono (by omega)), List.suffix_refl _⟩
theorem rText_suffix (l : List Int) (e : Int) : (rText l e).2.1 <:+ l := by
  unfold rText
  split
  · exact rVar_suffix l e
  · split
    · exact List.nil_suffix
    · exact (List.drop_suffix _ _).trans (rVar_suffix l e)
abbrev RBX (w0 : World) (b g : Nat) (r : Rec) (v u : Value) (x : List Int × Int) (l0 : List Int) (W : World) : Prop :=
  W.cell? ⟨b, 0, none⟩ = some (.int .i64 r.f0) ∧ W.cell? ⟨b, 1, none⟩ = some (.int .i64 r.f1) ∧ W.cell? ⟨b, 2, none⟩ = some (.int .i64 r.f2) ∧ W.cell? ⟨b, 3, none⟩ = some (.int .i64 r.f3) ∧ W.cell? ⟨b, 4, none⟩ = some (.int .i64 r.f4.f0) ∧ W.cell? ⟨b, 5, none⟩ = some (.int .i64 r.f4.f1) ∧ W.cell? ⟨b, 6, none⟩ = some (.int .i64 r.f4.f2.f0) ∧ W.cell? ⟨b, 7, none⟩ = some (.string r.f4.f2.f1) ∧ W.cell? ⟨b, 8, none⟩ = some (.int .i64 r.f4.f2.f2) ∧ W.cell? ⟨b, 9, none⟩ = some (.int .i64 r.f4.f2.f3) ∧ W.cell? ⟨b, 10, none⟩ = some v ∧ W.cell? ⟨b, 11, none⟩ = some u ∧
  W.frozen? ⟨b, 0, none⟩ = false ∧ W.frozen? ⟨b, 1, none⟩ = false ∧ W.frozen? ⟨b, 2, none⟩ = false ∧ W.frozen? ⟨b, 3, none⟩ = false ∧ W.frozen? ⟨b, 4, none⟩ = false ∧ W.frozen? ⟨b, 5, none⟩ = false ∧ W.frozen? ⟨b, 6, none⟩ = false ∧ W.frozen? ⟨b, 7, none⟩ = false ∧ W.frozen? ⟨b, 8, none⟩ = false ∧ W.frozen? ⟨b, 9, none⟩ = false ∧ W.frozen? ⟨b, 10, none⟩ = false ∧ W.frozen? ⟨b, 11, none⟩ = false ∧ Aside0 (RSt w0 b g r v u x l0 W)
theorem RBX.of {w0 W : World} {b g : Nat} {r : Rec} {v u : Value} {x : List Int × Int} {l0 : List Int} (h : RSt w0 b g r v u x l0 W) : RBX w0 b g r v u x l0 W := by
  obtain ⟨⟨q0, q1, q2, q3, q4, q5, q6, q7, q8, q9, q10, q11⟩, ⟨f0, f1, f2, f3, f4, f5, f6, f7, f8, f9, f10, f11⟩⟩ := box12 h.box
  exact ⟨q0, q1, q2, q3, q4, q5, q6, q7, q8, q9, q10, q11, f0, f1, f2, f3, f4, f5, f6, f7, f8, f9, f10, f11, ⟨h⟩⟩
theorem RBX.st {w0 W : World} {b g : Nat} {r : Rec} {v u : Value} {x : List Int × Int} {l0 : List Int} (h : RBX w0 b g r v u x l0 W) : RSt w0 b g r v u x l0 W := h.2.2.2.2.2.2.2.2.2.2.2.2.2.2.2.2.2.2.2.2.2.2.2.2.out
theorem RBX.drew {w0 W : World} {b g : Nat} {r : Rec} {v u : Value} {x : List Int × Int} {l0 : List Int} (h : RBX w0 b g r v u x l0 W) : RBX w0 b g r v u x l0 W.drew := RBX.of (h.st.below (below_drew (Below.refl _ _)))
theorem RBX.next {w0 W W' : World} {b g : Nat} {r : Rec} {v u : Value} {x : List Int × Int} {l0 : List Int} (hb : Below W.heap.size W W') (h : RBX w0 b g r v u x l0 W) : RBX w0 b g r v u x l0 W' := RBX.of (h.st.below hb)
theorem RSt.same {w0 W : World} {b g : Nat} {r : Rec} {v u : Value} {x : List Int × Int} {l0 : List Int} (h : RSt w0 b g r v u x l0 W) : RSt w0 b g r v u x l0 (put12 W b (.int .i64 r.f0) (.int .i64 r.f1) (.int .i64 r.f2) (.int .i64 r.f3) (.int .i64 r.f4.f0) (.int .i64 r.f4.f1) (.int .i64 r.f4.f2.f0) (.string r.f4.f2.f1) (.int .i64 r.f4.f2.f2) (.int .i64 r.f4.f2.f3) v u) :=
  h.put (put12_box h.box) (put12_grown _ _ _ _ _ _ _ _ _ _ _ _ _ _)
abbrev XS (q b off : Nat) (w0 W : World) : Prop := W.cell? ⟨q, 0, none⟩ = some (.pointer (some ⟨b, off, none⟩)) ∧ Aside0 (w0.heap.size ≤ q)
theorem XS.drew {q b off : Nat} {w0 W : World} (h : XS q b off w0 W) : XS q b off w0 W.drew := by
  obtain ⟨h0, h1⟩ := h
  exact ⟨by simpa using h0, h1⟩
theorem XS.call {q b off g : Nat} {w0 W W' : World} (hg : W.grownBy W' (some g)) (h : XS q b off w0 W) (hne : q ≠ g) : XS q b off w0 W' :=
  ⟨hg.cell h.1 (fun e => hne (Option.some.inj e)), h.2⟩
theorem XS.set {q b off : Nat} {w0 W : World} (h : XS q b off w0 W) (hne : q ≠ b) (v : Value) (j : Nat) : XS q b off w0 (W.setCell ⟨b, j, none⟩ v) :=
  ⟨(grown_set (j := j) (v := v) (World.grownBy.refl W (some b))).cell h.1 (fun e => hne (Option.some.inj e)), h.2⟩
set_option maxRecDepth 20000 in
set_option maxHeartbeats 8000000 in
theorem record_parse (w : World) (A : Option Addr) (c : Nat) (l : List Int) (hG : GItem w) (hH : GRec w) (hC : Kd.C (Kd.int .u8) w A l.length l) (hc : l.length ≤ c) (hb : CrcMath.Bytes l) (hl : l.length < 1099511627776) :
    Calls Tryd.prog 26 #[.slice A l.length c] w fun en w' => ∃ r v u, en = .returned (.tuple #[recV r v u, .bool (pRec l).isSome]) ∧ Kd.R kLine 118 w' w.heap.size (fun _ => True) v r.f4.f2.f4 ∧ Kd.R kEnt 38 w' w.heap.size (fun _ => True) u r.f5 ∧ (∀ y, pRec l = some y → r = y) ∧ Below w.heap.size w w' := by
  have HG := Aside0.mk hG
  have HH := Aside0.mk hH
  have HC := Aside0.mk hC
  have HCC := Aside0.mk hc
  have HBY := Aside0.mk hb
  have HL := Aside0.mk hl
  clear hG hH hC hc hb hl
  have HREAD := bits_Read (w.alloc (.cells #[.int .i64 0, .int .i64 0, .int .i64 0, .int .i64 0, .int .i64 0, .int .i64 0, .int .i64 0, .string ⟨#[]⟩, .int .i64 0, .int .i64 0, .slice none 0 0, .slice none 0 0] 41)) A c l (Kd.C_alloc HC.out _) HCC.out HBY.out (by have := HL.out; omega)
  have hQ := rNum1_range l 0 HBY.out
  have hQS := rNum_suffix 1 l 0
  have hp : pRec l = pRec1 (rHas (rNum 1 l 0).1) (pNumsN (rHas (rNum 1 l 0).1) (zRec (rNum 1 l 0).1) (rNum 1 l 0).2 3) := rfl
  have HNUM := fun W g h => rd_Num 1 (.inl rfl) W g l 0 h 8 rfl
  generalize rNum 1 l 0 = q at hQ hQS hp HNUM
  obtain ⟨k, x1⟩ := q
  simp only at hp hQ hQS HNUM
  have hkw : wrap64 k = k := wrap64_in (by omega) (by omega)
  have HQS := Aside0.mk hQS
  have HHAS := Aside0.mk (fun W hb => record_has W k (HH.out.keep (n := w.heap.size) hb HH.out.lt))
  generalize rHas k = own at *
  have HP := Aside0.mk hp
  clear hQ hQS hp
  go_enter Tryd.func26, Tryd.ntmps26
  go_upto_block 0 with (first
    | (go_at_call 24; go_loud (refine HREAD.mono ?_; rintro en w1 ⟨g, rfl, hge, hr, hbb⟩; rw [World.size_alloc] at hge hbb; have HS := Aside0.mk (RSt.made hr hge hbb); clear hr hbb hge HREAD))
    | (go_at_call 25; refine (HNUM _ g HS.out.rd).mono ?_; rintro en w2 ⟨rfl, hr, hg⟩; have HS2 := Aside0.mk (HS.out.call hr HQS.out hg); have hc0 : w2.cell? ⟨w.heap.size, 0, none⟩ = some (.int .i64 0) := blk_cell HS2.out.box 0; have hf0 := blk_frozen HS2.out.box 0; have HS3 := Aside0.mk (HS2.out.set0 k); clear hr hg)
    | (go_at_call 32; refine (HHAS.out _ HS3.out.low).mono ?_; rintro en w3 ⟨rfl, rfl⟩)
    | (go_at_call 33; refine (record_numbers _ w.heap.size).mono ?_; rintro en w3 ⟨rfl, hb⟩; have HS4 := Aside0.mk (HS3.out.below hb); clear hb))
  have HS5 : Aside0 (RSt w w.heap.size g (zRec k) (.slice none 0 0) (.slice none 0 0) x1 l w3) := ⟨HS4.out⟩
  clear HS HS2 HS3 HS4 hc0 hf0 HNUM HHAS
  go_cut [] (fun wx => ∃ (r : Rec) (x : List Int × Int), Aside0 (pNumsN own (zRec k) x1 3 = (r, x)) ∧ Aside0 (r.f4 = zEnt ∧ r.f5 = []) ∧ Aside0 (RSt w w.heap.size g r (.slice none 0 0) (.slice none 0 0) x l wx))
  case first =>
    go_wp2_with fail
    go_loopw [19] (fun v wr => ∃ (j : Nat) (r : Rec) (x : List Int × Int), j ≤ 3 ∧ v = .int .i64 (j : Int) ∧ Aside0 (pNumsN own (zRec k) x1 j = (r, x)) ∧ Aside0 (r.f4 = zEnt ∧ r.f5 = []) ∧ Aside0 (RSt w w.heap.size g r (.slice none 0 0) (.slice none 0 0) x l wr)) (fun v _ => 3 - (intOf v).toNat)
    case atStart => exact ⟨0, zRec k, x1, by omega, rfl, ⟨rfl⟩, ⟨rfl, rfl⟩, HS5⟩
    case round =>
      clear HS5
      obtain ⟨j, r, x, hj, rfl, HPN, HRZ, HS⟩ := hrel
      by_cases hlt : j < 3
      · have hb : decide ((j : Int) < 3) = true := by simp; omega
        have hix := nums_index w.heap.size j hlt
        have hw1 := below_alloc (Below.refl wr.heap.size wr) (.cells #[.pointer (some ⟨w.heap.size, nOff j, none⟩), .int .i64 (nWhat j)] 65)
        have hp0 : (wr.alloc (.cells #[.pointer (some ⟨w.heap.size, nOff j, none⟩), .int .i64 (nWhat j)] 65)).cell? ⟨wr.heap.size, 0, none⟩ = some (.pointer (some ⟨w.heap.size, nOff j, none⟩)) := by simp
        have hp1 : (wr.alloc (.cells #[.pointer (some ⟨w.heap.size, nOff j, none⟩), .int .i64 (nWhat j)] 65)).cell? ⟨wr.heap.size, 1, none⟩ = some (.int .i64 (nWhat j)) := by simp
        have HS1 := Aside0.mk (HS.out.below hw1)
        have hqb : wr.heap.size ≠ w.heap.size := fun e => by have := HS.out.lt.1; omega
        have hqg : wr.heap.size ≠ g := fun e => by have := HS.out.lt.2; omega
        have hqs : w.heap.size ≤ wr.heap.size := HS.out.low.size
        have HQ := Aside0.mk (And.intro hqb (And.intro hqg hqs))
        have hpn : pNumsN own (zRec k) x1 (j + 1) = if bits .and .i64 own (nWhat j) != 0 then (setN (pNumsN own (zRec k) x1 j).1 j (min (rVar (pNumsN own (zRec k) x1 j).2.1 (pNumsN own (zRec k) x1 j).2.2).1 9007199254740992), (rVar (pNumsN own (zRec k) x1 j).2.1 (pNumsN own (zRec k) x1 j).2.2).2) else pNumsN own (zRec k) x1 j := rfl
        rw [HPN.out] at hpn
        have HPN2 := Aside0.mk hpn
        have HLT := Aside0.mk hlt
        obtain ⟨q, hq⟩ : ∃ q, q = wr.heap.size := ⟨_, rfl⟩
        clear hw1 HS hqb hqg hqs hpn
        go_upto_if 26 with fail
        clear hix
        rw [← hq] at hp0 hp1 HQ ⊢
        clear hq
        generalize wr.alloc (.cells #[.pointer (some ⟨w.heap.size, nOff j, none⟩), .int .i64 (nWhat j)] 65) = W1 at *
        cases h1 : bits .and .i64 own (nWhat j) != 0
        · have HPN3 : Aside0 (pNumsN own (zRec k) x1 (j + 1) = (r, x)) := ⟨by rw [HPN2.out, h1]; rfl⟩
          go_wp2_with fail
          go_roundw
          case rel => exact ⟨j + 1, r, x, by have := HLT.out; omega, by go_num, HPN3, HRZ, HS1⟩
          case measure => (have := HLT.out; simp [intOf]; omega)
        · have HV := fun W h => rd_Varint W g x.1 x.2 h
          have hvr := rVar_range x.1 x.2 HS1.out.rd.bytes
          have hvs := rVar_suffix x.1 x.2
          have hpn := HPN2.out
          rw [h1, if_pos rfl] at hpn
          simp only at hpn
          generalize rVar x.1 x.2 = qq at HV hvr hvs hpn
          obtain ⟨n, y⟩ := qq
          simp only at HV hvr hvs hpn
          have hmw : IntKind.i64.wrap (min n 9007199254740992) = min n 9007199254740992 := by rw [IntKind.wrap_i64]; omega
          have HMW := Aside0.mk hmw
          clear hmw
          have HVS := Aside0.mk hvs
          have HPN3 := Aside0.mk hpn
          clear hvr hvs hpn
          have hxs : XS q w.heap.size (nOff j) w W1 := ⟨hp0, ⟨HQ.out.2.2⟩⟩
          have HSd := Aside0.mk (HS1.out.below (below_drew (Below.refl _ _)))
          have HV1 := Aside0.mk (HV W1.drew HSd.out.rd)
          clear HV
          go_upto_region 8 with fail
          clear hp0 hp1
          go_region_held3 (fun W' => XS q w.heap.size (nOff j) w W') (first | assumption | (apply XS.drew; assumption) | (exact XS.call hg (XS.drew hxs) HQ.out.2.1) | (refine XS.set ?_ HQ.out.1 _ _; assumption))
            (first
              | (go_at_call 59; refine HV1.out.mono ?_; rintro e wv ⟨rfl, hr, hg⟩; have HS2 := Aside0.mk (HSd.out.call hr HVS.out hg); have hcN := nums_cell HS2.out.box j HLT.out; have hfN := blk_frozen HS2.out.box (nOff j)))
          have HS3 := Aside0.mk (HS2.out.setN j HLT.out (min n 9007199254740992))
          rw [HMW.out]
          go_wp2_with fail
          go_roundw
          case rel =>
            refine ⟨j + 1, setN r j (min n 9007199254740992), y, by have := HLT.out; omega, by go_num, HPN3, ⟨?_⟩, HS3⟩
            unfold setN
            split
            · exact HRZ.out
            · split
              · exact HRZ.out
              · exact HRZ.out
          case measure => (have := HLT.out; simp [intOf]; omega)
      · have hb : decide ((j : Int) < 3) = false := by simp; omega
        obtain rfl : j = 3 := by omega
        go_wp2_with fail
        go_meet
        exact ⟨r, x, HPN, HRZ, HS⟩
  case rest =>
    clear HS5
    obtain ⟨r, x, HPN, HRZ, HS⟩ := hcut
    have hp := HP.out
    rw [HPN.out] at hp
    obtain ⟨y, e⟩ := x
    obtain ⟨hz4, hz5⟩ := HRZ.out
    obtain ⟨r0, r1, r2, r3, r4, r5⟩ := r
    simp only at hz4 hz5
    subst hz4 hz5
    clear HP HPN HRZ
    by_cases he : e = 0
    · subst he
      have hp2 : pRec l = if bits .and .i64 own 4 != 0 then (if (pEnt y).2 = 0 ∧ recE (⟨r0, r1, r2, r3, (pEnt y).1, []⟩ : Rec) = 0 then some ⟨r0, r1, r2, r3, (pEnt y).1, []⟩ else none) else
          if bits .and .i64 own 8 != 0 then (if (pRows (rText y 0).1).2 = 0 ∧ rEnd (rText y 0).2.1 (rText y 0).2.2 = 0 ∧ recE (⟨r0, r1, r2, r3, zEnt, (pRows (rText y 0).1).1⟩ : Rec) = 0 then some ⟨r0, r1, r2, r3, zEnt, (pRows (rText y 0).1).1⟩ else none) else
          if rEnd y 0 = 0 ∧ recE (⟨r0, r1, r2, r3, zEnt, []⟩ : Rec) = 0 then some ⟨r0, r1, r2, r3, zEnt, []⟩ else none := by
        rw [hp]
        unfold pRec1
        rw [if_neg (by simp)]
      clear hp
      go_upto_block 2 with (first | (go_at_call 54; refine (rd_Err _ g y 0 HS.out.rd).mono ?_; rintro en w4 ⟨rfl, rfl⟩))
      go_cut [8] (fun s8 wx => ∃ (rows : List Ent) (u' : Value) (x' : List Int × Int) (er : Int), s8 = .int .i64 er ∧ Aside0 (RSt w w.heap.size g ⟨r0, r1, r2, r3, zEnt, rows⟩ (.slice none 0 0) u' x' l wx) ∧ Aside0 (Kd.R kEnt 38 wx w.heap.size (fun j => j ≠ w.heap.size) u' rows) ∧ Aside0 (pRec l = if er = 0 ∧ rEnd x'.1 x'.2 = 0 ∧ recE (⟨r0, r1, r2, r3, zEnt, rows⟩ : Rec) = 0 then some ⟨r0, r1, r2, r3, zEnt, rows⟩ else none))
      case first =>
        cases h4 : bits .and .i64 own 4 != 0
        · rw [h4] at hp2
          simp only [Bool.false_eq_true, if_false] at hp2
          cases h8 : bits .and .i64 own 8 != 0
          · rw [h8] at hp2
            simp only [Bool.false_eq_true, if_false] at hp2
            have HP := Aside0.mk hp2
            clear hp2
            go_wp2_with fail
            go_meet
            exact ⟨[], .slice none 0 0, (y, 0), 0, rfl, HS, ⟨Kd.R_nil _ _ _ _ _⟩, ⟨by rw [HP.out]; simp⟩⟩
          · rw [h8, if_pos rfl] at hp2
            have HTX := Aside0.mk (rd_Text wc g y 0 HS.out.rd (by have h1 := HS.out.suf.length_le; have h2 := HL.out; simp only at h1; omega))
            have HTS := Aside0.mk (rText_suffix y 0)
            have HTV := Aside0.mk (rText_val y 0 HS.out.rd.bytes)
            generalize rText y 0 = q at hp2 HTX HTS HTV
            obtain ⟨tx, ya, ea⟩ := q
            simp only at hp2
            have HROW := Aside0.mk (fun W A2 c2 h1 h2 h3 => entry_Rows W A2 c2 tx h1 h2 h3 HTV.out.2 (by have h0 : tx.length ≤ y.length := HTV.out.1; have h1 := HS.out.suf.length_le; have h2 := HL.out; simp only at h1; omega))
            generalize pRows tx = q at hp2 HROW
            obtain ⟨rows, er⟩ := q
            simp only at hp2 HROW
            have HP := Aside0.mk hp2
            clear hp2
            go_wp2_with (first
              | (go_at_call 62; refine HTX.out.mono ?_; rintro en w4 ⟨v4, rfl, hv, hr, hg⟩; obtain ⟨A4, c4, e4, hc4, hr4⟩ := R_C hv; subst e4; have HS4 := Aside0.mk (HS.out.call hr HTS.out hg); have HC4 := Aside0.mk hr4; have HCC4 := Aside0.mk hc4; clear hv hr hg hr4 hc4)
              | (go_at_call 61; refine (HROW.out w4 A4 c4 (HG.out.keep HS4.out.low HG.out.lt) HC4.out HCC4.out).mono ?_; rintro en w5 ⟨v5, rfl, hv, hb⟩; obtain ⟨A5, c5, e5⟩ := Kd.R_slice hv; subst e5; have HS5 := Aside0.mk (HS4.out.below hb); have HV5 := Aside0.mk (Kd.R_lower (Kd.R_mono (Kd.R_bound hv) (ok' := fun j => j ≠ w.heap.size) (fun j hj e => by have h1 := hj.2.1; have h2 := HS4.out.lt.1; omega)) HS4.out.low.size); have q11 : w5.cell? ⟨w.heap.size, 11, none⟩ = some (.slice none 0 0) := blk_cell HS5.out.box 11; have f11 := blk_frozen HS5.out.box 11; have HS6 := Aside0.mk (HS5.out.setL rows (.slice A5 rows.length c5)); clear hv hb))
            go_meet
            exact ⟨rows, _, (ya, ea), er, rfl, HS6, ⟨Kd.R_far (p := ⟨w.heap.size, 11, none⟩) HV5.out (fun j hj => hj) _⟩, HP⟩
        · rw [h4, if_pos rfl] at hp2
          have HPAR := Aside0.mk (fun W A2 c2 h1 h2 h3 h4 => entry_Parse W A2 c2 y h1 h2 h3 h4 (by have h1 := HS.out.suf.length_le; have h2 := HL.out; simp only at h1; omega))
          generalize pEnt y = q at hp2 HPAR
          obtain ⟨p, ep⟩ := q
          simp only at hp2 HPAR
          have HP := Aside0.mk hp2
          clear hp2
          have hsuf := List.suffix_iff_eq_drop.1 HS.out.suf
          have hle := HS.out.suf.length_le
          simp only at hsuf hle
          obtain ⟨m, hm⟩ : ∃ m, m = l.length - y.length := ⟨_, rfl⟩
          have hlm : l.length - m = y.length := by omega
          obtain ⟨A', hcut, hAC, hcap, _⟩ := bytes_drop .i64 A c l m (by omega) HCC.out
          have hdm : l.drop m = y := by rw [hm]; exact hsuf.symm
          rw [hdm] at hAC hcap
          rw [hlm] at hcut
          have hwm : wrap64 ((l.length : Int) - (y.length : Int)) = (m : Int) := by have := HL.out; rw [wrap64_in (by omega) (by omega)]; omega
          have HAC := Aside0.mk hAC
          have HCAP := Aside0.mk hcap
          have HYB := Aside0.mk HS.out.rd.bytes
          clear hAC hcap hm hlm hdm hsuf hle
          obtain ⟨⟨_, _, _, _, q4, q5, q6, q7, q8, q9, q10, _⟩, ⟨_, _, _, _, f4, f5, f6, f7, f8, f9, f10, _⟩⟩ := box12 HS.out.box
          go_upto_region 15 with (first
            | (go_at_call 54; refine (rd_Err _ g y 0 HS.out.rd).mono ?_; rintro en w4 ⟨rfl, rfl⟩)
            | (go_at_call 57; refine (rd_Left _ g y 0 HS.out.rd).mono ?_; rintro en w4 ⟨rfl, rfl⟩)
            | (go_at_call 60; refine (HPAR.out wc A' _ (HG.out.keep HS.out.low HG.out.lt) (HAC.out _ (Kd.C_below HC.out HS.out.low)) HCAP.out HYB.out).mono ?_; rintro en w4 ⟨v4, rfl, hv, hb⟩; obtain ⟨A4, c4, e4⟩ := Kd.R_slice hv; subst e4; have HV := Aside0.mk (Kd.R_lower hv HS.out.low.size); have HWS := Aside0.mk (show wc.heap.size ≤ w4.heap.size from hb.size); have HS4 := Aside0.mk (HS.out.below hb); have HS5 := Aside0.mk (HS4.out.setE p (.slice A4 p.f2.f4.length c4)); clear q4 q5 q6 q7 q8 q9 q10 f4 f5 f6 f7 f8 f9 f10; obtain ⟨⟨_, _, _, _, q4, q5, q6, q7, q8, q9, q10, _⟩, ⟨_, _, _, _, f4, f5, f6, f7, f8, f9, f10, _⟩⟩ := box12 HS4.out.box; clear hv hb))
          have HS6 : Aside0 (RSt w w.heap.size g ⟨r0, r1, r2, r3, p, []⟩ (.slice A4 p.f2.f4.length c4) (.slice none 0 0) (y, 0) l (((((((w4.setCell ⟨w.heap.size, 4, none⟩ (.int .i64 p.f0)).setCell ⟨w.heap.size, 5, none⟩ (.int .i64 p.f1)).setCell ⟨w.heap.size, 6, none⟩ (.int .i64 p.f2.f0)).setCell ⟨w.heap.size, 7, none⟩ (.string p.f2.f1)).setCell ⟨w.heap.size, 8, none⟩ (.int .i64 p.f2.f2)).setCell ⟨w.heap.size, 9, none⟩ (.int .i64 p.f2.f3)).setCell ⟨w.heap.size, 10, none⟩ (.slice A4 p.f2.f4.length c4))) := ⟨HS5.out⟩
          have HV6 : Aside0 (Kd.R kLine 118 (((((((w4.setCell ⟨w.heap.size, 4, none⟩ (.int .i64 p.f0)).setCell ⟨w.heap.size, 5, none⟩ (.int .i64 p.f1)).setCell ⟨w.heap.size, 6, none⟩ (.int .i64 p.f2.f0)).setCell ⟨w.heap.size, 7, none⟩ (.string p.f2.f1)).setCell ⟨w.heap.size, 8, none⟩ (.int .i64 p.f2.f2)).setCell ⟨w.heap.size, 9, none⟩ (.int .i64 p.f2.f3)).setCell ⟨w.heap.size, 10, none⟩ (.slice A4 p.f2.f4.length c4)) w.heap.size (fun j => j ≠ w.heap.size) (.slice A4 p.f2.f4.length c4) p.f2.f4) := ⟨Kd.R_grown (row := some w.heap.size) (Kd.R_mono (Kd.R_types HV.out HS4.out.box (by decide)) (fun j hj => hj.2)) (grown_set (grown_set (grown_set (grown_set (grown_set (grown_set (grown_set (World.grownBy.refl w4 _)))))))) (fun j hj e => hj (Option.some.inj e))⟩
          clear q4 q5 q6 q7 q8 q9 q10 f4 f5 f6 f7 f8 f9 f10 HS5 HS4 HV hcut hwm
          generalize ((((((w4.setCell ⟨w.heap.size, 4, none⟩ (.int .i64 p.f0)).setCell ⟨w.heap.size, 5, none⟩ (.int .i64 p.f1)).setCell ⟨w.heap.size, 6, none⟩ (.int .i64 p.f2.f0)).setCell ⟨w.heap.size, 7, none⟩ (.string p.f2.f1)).setCell ⟨w.heap.size, 8, none⟩ (.int .i64 p.f2.f2)).setCell ⟨w.heap.size, 9, none⟩ (.int .i64 p.f2.f3)).setCell ⟨w.heap.size, 10, none⟩ (.slice A4 p.f2.f4.length c4) = W5 at *
          by_cases hep : ep = 0
          · subst hep
            obtain ⟨_, hn1, hr1⟩ := Kd.R_reads' (Kd.R_below HV6.out (below_drew (Below.refl W5.heap.size W5)))
            have hlow := HS6.out.low.trans ((below_drew (Below.refl W5.heap.size W5)).mono HS6.out.low.size)
            have hck := record_Check W5.drew A4 none c4 0 ⟨r0, r1, r2, r3, p, []⟩ (HG.out.keep hlow HG.out.lt) (HH.out.keep hlow HH.out.lt) hr1 hn1 (Kd.C_nil _ _) (Nat.le_refl _)
            have hz : ((0 : Int) == 0) = true := rfl
            by_cases hre : recE (⟨r0, r1, r2, r3, p, []⟩ : Rec) = 0
            · rw [hre] at hck
              have HCK := Aside0.mk hck
              have HPO : Aside0 (pRec l = some ⟨r0, r1, r2, r3, p, []⟩) := ⟨by rw [HP.out, if_pos ⟨rfl, hre⟩]⟩
              clear HP hre hck hn1 hr1 hlow
              have hS := RBX.of HS6.out
              refine wp_region_held_drew (S := fun w' => RBX w w.heap.size g ⟨r0, r1, r2, r3, p, []⟩ (.slice A4 p.f2.f4.length c4) (.slice none 0 0) (y, 0) l w') (by kernel_rfl) hS.drew (fun hHeld => ?_)
              refine takeH (i := 0) (some 55) (v := ?_) rfl rfl (by kernel_rfl) (by kernel_rfl) (by kernel_rfl) (fun _ _ _ h => h) (Or.inl ⟨by kernel_rfl, ?_⟩) (by assumption) ?_
              rotate_left
              · (rintro w' ⟨s0, s1, s2, s3, s4, s5, s6, s7, s8, s9, s10, s11, t0, t1, t2, t3, t4, t5, t6, t7, t8, t9, t10, t11, s⟩; go_simp; first | done | with_reducible rfl)
              simp only [Act.put, List.setIfInBounds_toArray, List.set_cons_zero, List.set_cons_succ]
              refine takeH (i := 1) (some 56) (v := ?_) rfl rfl (by kernel_rfl) (by kernel_rfl) (by kernel_rfl) (fun _ _ _ h => h) (Or.inl ⟨by kernel_rfl, ?_⟩) (by assumption) ?_
              rotate_left
              · (rintro w' ⟨s0, s1, s2, s3, s4, s5, s6, s7, s8, s9, s10, s11, t0, t1, t2, t3, t4, t5, t6, t7, t8, t9, t10, t11, s⟩; go_simp; first | done | with_reducible rfl)
              simp only [Act.put, List.setIfInBounds_toArray, List.set_cons_zero, List.set_cons_succ]
              refine takeH (i := 2) (some 57) (v := ?_) rfl rfl (by kernel_rfl) (by kernel_rfl) (by kernel_rfl) (fun _ _ _ h => h) (Or.inl ⟨by kernel_rfl, ?_⟩) (by assumption) ?_
              rotate_left
              · (rintro w' ⟨s0, s1, s2, s3, s4, s5, s6, s7, s8, s9, s10, s11, t0, t1, t2, t3, t4, t5, t6, t7, t8, t9, t10, t11, s⟩; go_simp; first | done | with_reducible rfl)
              simp only [Act.put, List.setIfInBounds_toArray, List.set_cons_zero, List.set_cons_succ]
              refine takeH (i := 3) (some 58) (v := ?_) rfl rfl (by kernel_rfl) (by kernel_rfl) (by kernel_rfl) (fun _ _ _ h => h) (Or.inl ⟨by kernel_rfl, ?_⟩) (by assumption) ?_
              rotate_left
              · (rintro w' ⟨s0, s1, s2, s3, s4, s5, s6, s7, s8, s9, s10, s11, t0, t1, t2, t3, t4, t5, t6, t7, t8, t9, t10, t11, s⟩; go_simp; first | done | with_reducible rfl)
              simp only [Act.put, List.setIfInBounds_toArray, List.set_cons_zero, List.set_cons_succ]
              refine takeH (i := 4) (some 59) (v := ?_) rfl rfl (by kernel_rfl) (by kernel_rfl) (by kernel_rfl) (fun _ _ _ h => h) (Or.inl ⟨by kernel_rfl, ?_⟩) (by assumption) ?_
              rotate_left
              · (rintro w' ⟨s0, s1, s2, s3, s4, s5, s6, s7, s8, s9, s10, s11, t0, t1, t2, t3, t4, t5, t6, t7, t8, t9, t10, t11, s⟩; go_simp; first | done | with_reducible rfl)
              simp only [Act.put, List.setIfInBounds_toArray, List.set_cons_zero, List.set_cons_succ]
              refine wpAnyH_ready (rs := [5]) (by kernel_rfl) (by simp) ?_
              refine AllReadyH.cons rfl (fun K hK => ?_) AllReadyH.nil
              go_simp
              refine HCK.out.mono ?_; rintro e w7 ⟨rfl, hb⟩
              refine hK.out _ _ ?_ (fun hHeld => ?_)
              · exact RBX.next hb (RBX.drew hS)
              clear hK K
              try simp only [Act.put, List.setIfInBounds_toArray, List.set_cons_zero, List.set_cons_succ]
              refine takeH (i := 6) (some 61) (v := ?_) rfl rfl (by kernel_rfl) (by kernel_rfl) (by kernel_rfl) (fun _ _ _ h => h) (Or.inl ⟨by kernel_rfl, ?_⟩) (by assumption) ?_
              rotate_left
              · (rintro w' ⟨s0, s1, s2, s3, s4, s5, s6, s7, s8, s9, s10, s11, t0, t1, t2, t3, t4, t5, t6, t7, t8, t9, t10, t11, s⟩; go_simp; first | done | with_reducible rfl)
              simp only [Act.put, List.setIfInBounds_toArray, List.set_cons_zero, List.set_cons_succ]
              refine takeH (i := 7) (some 62) (v := ?_) rfl rfl (by kernel_rfl) (by kernel_rfl) (by kernel_rfl) (fun _ _ _ h => h) (Or.inl ⟨by kernel_rfl, ?_⟩) (by assumption) ?_
              rotate_left
              · (rintro w' ⟨s0, s1, s2, s3, s4, s5, s6, s7, s8, s9, s10, s11, t0, t1, t2, t3, t4, t5, t6, t7, t8, t9, t10, t11, s⟩; go_simp; first | done | with_reducible rfl)
              simp only [Act.put, List.setIfInBounds_toArray, List.set_cons_zero, List.set_cons_succ]
              have HS7 := Aside0.mk (RBX.st hHeld)
              have HV7 := Aside0.mk (Kd.R_below (Kd.R_below HV6.out (below_drew (Below.refl _ _))) hb)
              refine wpAnyH_ready (rs := [8]) (by kernel_rfl) (by simp) ?_
              refine AllReadyH.cons rfl (fun K hK => ?_) AllReadyH.nil
              clear hS hHeld
              have hS := RBX.of HS7.out
              obtain ⟨s0, s1, s2, s3, s4, s5, s6, s7, s8, s9, s10, s11, t0, t1, t2, t3, t4, t5, t6, t7, t8, t9, t10, t11, _⟩ := hS
              go_simp
              refine hK.out _ _ ?_ (fun hHeld => ?_)
              · exact RBX.of HS7.out.same
              clear hK K
              try simp only [Act.put, List.setIfInBounds_toArray, List.set_cons_zero, List.set_cons_succ]
              refine takeH (i := 9) (some 3) (v := ?_) rfl rfl (by kernel_rfl) (by kernel_rfl) (by kernel_rfl) (fun _ _ _ h => h) (Or.inl ⟨by kernel_rfl, ?_⟩) (by assumption) ?_
              rotate_left
              · (rintro w' ⟨s0, s1, s2, s3, s4, s5, s6, s7, s8, s9, s10, s11, t0, t1, t2, t3, t4, t5, t6, t7, t8, t9, t10, t11, s⟩; go_simp; first | done | with_reducible rfl)
              simp only [Act.put, List.setIfInBounds_toArray, List.set_cons_zero, List.set_cons_succ]
              refine wpAnyH_done (by kernel_rfl) ?_ _
              have HSf := Aside0.mk HS7.out.same
              clear s0 s1 s2 s3 s4 s5 s6 s7 s8 s9 s10 s11 t0 t1 t2 t3 t4 t5 t6 t7 t8 t9 t10 t11
              go_wp2_with fail
              refine bodyPost_ret (ret_rec (r := ⟨r0, r1, r2, r3, p, []⟩) HSf.out.box rfl rfl) rfl ⟨⟨r0, r1, r2, r3, p, []⟩, .slice A4 p.f2.f4.length c4, .slice none 0 0, by rw [HPO.out]; rfl, ?_, Kd.R_nil _ _ _ _ _, fun y hy => (by rw [HPO.out] at hy; cases hy; rfl), HSf.out.low⟩
              exact Kd.R_mono (Kd.R_grown (row := some w.heap.size) HV7.out (put12_grown _ _ _ _ _ _ _ _ _ _ _ _ _ _) (fun j hj e => hj (Option.some.inj e))) (fun _ _ => trivial)
            · have hre2 : recE (⟨r0, r1, r2, r3, p, []⟩ : Rec) = 2 := by
                unfold recE at hre ⊢
                split at hre
                · exact absurd rfl hre
                · rename_i h; rw [if_neg h]
              rw [hre2] at hck
              have HCK := Aside0.mk hck
              have HPO : Aside0 (pRec l = none) := ⟨by rw [HP.out, if_neg (fun h => hre h.2)]⟩
              clear HP hre hre2 hck hn1 hr1 hlow
              have hS := RBX.of HS6.out
              refine wp_region_held_drew (S := fun w' => RBX w w.heap.size g ⟨r0, r1, r2, r3, p, []⟩ (.slice A4 p.f2.f4.length c4) (.slice none 0 0) (y, 0) l w') (by kernel_rfl) hS.drew (fun hHeld => ?_)
              refine takeH (i := 0) (some 55) (v := ?_) rfl rfl (by kernel_rfl) (by kernel_rfl) (by kernel_rfl) (fun _ _ _ h => h) (Or.inl ⟨by kernel_rfl, ?_⟩) (by assumption) ?_
              rotate_left
              · (rintro w' ⟨s0, s1, s2, s3, s4, s5, s6, s7, s8, s9, s10, s11, t0, t1, t2, t3, t4, t5, t6, t7, t8, t9, t10, t11, s⟩; go_simp; first | done | with_reducible rfl)
              simp only [Act.put, List.setIfInBounds_toArray, List.set_cons_zero, List.set_cons_succ]
              refine takeH (i := 1) (some 56) (v := ?_) rfl rfl (by kernel_rfl) (by kernel_rfl) (by kernel_rfl) (fun _ _ _ h => h) (Or.inl ⟨by kernel_rfl, ?_⟩) (by assumption) ?_
              rotate_left
              · (rintro w' ⟨s0, s1, s2, s3, s4, s5, s6, s7, s8, s9, s10, s11, t0, t1, t2, t3, t4, t5, t6, t7, t8, t9, t10, t11, s⟩; go_simp; first | done | with_reducible rfl)
              simp only [Act.put, List.setIfInBounds_toArray, List.set_cons_zero, List.set_cons_succ]
              refine takeH (i := 2) (some 57) (v := ?_) rfl rfl (by kernel_rfl) (by kernel_rfl) (by kernel_rfl) (fun _ _ _ h => h) (Or.inl ⟨by kernel_rfl, ?_⟩) (by assumption) ?_
              rotate_left
              · (rintro w' ⟨s0, s1, s2, s3, s4, s5, s6, s7, s8, s9, s10, s11, t0, t1, t2, t3, t4, t5, t6, t7, t8, t9, t10, t11, s⟩; go_simp; first | done | with_reducible rfl)
              simp only [Act.put, List.setIfInBounds_toArray, List.set_cons_zero, List.set_cons_succ]
              refine takeH (i := 3) (some 58) (v := ?_) rfl rfl (by kernel_rfl) (by kernel_rfl) (by kernel_rfl) (fun _ _ _ h => h) (Or.inl ⟨by kernel_rfl, ?_⟩) (by assumption) ?_
              rotate_left
              · (rintro w' ⟨s0, s1, s2, s3, s4, s5, s6, s7, s8, s9, s10, s11, t0, t1, t2, t3, t4, t5, t6, t7, t8, t9, t10, t11, s⟩; go_simp; first | done | with_reducible rfl)
              simp only [Act.put, List.setIfInBounds_toArray, List.set_cons_zero, List.set_cons_succ]
              refine takeH (i := 4) (some 59) (v := ?_) rfl rfl (by kernel_rfl) (by kernel_rfl) (by kernel_rfl) (fun _ _ _ h => h) (Or.inl ⟨by kernel_rfl, ?_⟩) (by assumption) ?_
              rotate_left
              · (rintro w' ⟨s0, s1, s2, s3, s4, s5, s6, s7, s8, s9, s10, s11, t0, t1, t2, t3, t4, t5, t6, t7, t8, t9, t10, t11, s⟩; go_simp; first | done | with_reducible rfl)
              simp only [Act.put, List.setIfInBounds_toArray, List.set_cons_zero, List.set_cons_succ]
              refine wpAnyH_ready (rs := [5]) (by kernel_rfl) (by simp) ?_
              refine AllReadyH.cons rfl (fun K hK => ?_) AllReadyH.nil
              go_simp
              refine HCK.out.mono ?_; rintro e w7 ⟨rfl, hb⟩
              refine hK.out _ _ ?_ (fun hHeld => ?_)
              · exact RBX.next hb (RBX.drew hS)
              clear hK K
              try simp only [Act.put, List.setIfInBounds_toArray, List.set_cons_zero, List.set_cons_succ]
              refine takeH (i := 6) (some 61) (v := ?_) rfl rfl (by kernel_rfl) (by kernel_rfl) (by kernel_rfl) (fun _ _ _ h => h) (Or.inl ⟨by kernel_rfl, ?_⟩) (by assumption) ?_
              rotate_left
              · (rintro w' ⟨s0, s1, s2, s3, s4, s5, s6, s7, s8, s9, s10, s11, t0, t1, t2, t3, t4, t5, t6, t7, t8, t9, t10, t11, s⟩; go_simp; first | done | with_reducible rfl)
              simp only [Act.put, List.setIfInBounds_toArray, List.set_cons_zero, List.set_cons_succ]
              refine takeH (i := 7) (some 62) (v := ?_) rfl rfl (by kernel_rfl) (by kernel_rfl) (by kernel_rfl) (fun _ _ _ h => h) (Or.inl ⟨by kernel_rfl, ?_⟩) (by assumption) ?_
              rotate_left
              · (rintro w' ⟨s0, s1, s2, s3, s4, s5, s6, s7, s8, s9, s10, s11, t0, t1, t2, t3, t4, t5, t6, t7, t8, t9, t10, t11, s⟩; go_simp; first | done | with_reducible rfl)
              simp only [Act.put, List.setIfInBounds_toArray, List.set_cons_zero, List.set_cons_succ]
              have HS7 := Aside0.mk (RBX.st hHeld)
              have HV7 := Aside0.mk (Kd.R_below (Kd.R_below HV6.out (below_drew (Below.refl _ _))) hb)
              refine wpAnyH_ready (rs := [8]) (by kernel_rfl) (by simp) ?_
              refine AllReadyH.cons rfl (fun K hK => ?_) AllReadyH.nil
              clear hS hHeld
              have hS := RBX.of HS7.out
              obtain ⟨s0, s1, s2, s3, s4, s5, s6, s7, s8, s9, s10, s11, t0, t1, t2, t3, t4, t5, t6, t7, t8, t9, t10, t11, _⟩ := hS
              go_simp
              refine hK.out _ _ ?_ (fun hHeld => ?_)
              · exact RBX.of HS7.out.same
              clear hK K
              try simp only [Act.put, List.setIfInBounds_toArray, List.set_cons_zero, List.set_cons_succ]
              refine takeH (i := 9) (some 3) (v := ?_) rfl rfl (by kernel_rfl) (by kernel_rfl) (by kernel_rfl) (fun _ _ _ h => h) (Or.inl ⟨by kernel_rfl, ?_⟩) (by assumption) ?_
              rotate_left
              · (rintro w' ⟨s0, s1, s2, s3, s4, s5, s6, s7, s8, s9, s10, s11, t0, t1, t2, t3, t4, t5, t6, t7, t8, t9, t10, t11, s⟩; go_simp; first | done | with_reducible rfl)
              simp only [Act.put, List.setIfInBounds_toArray, List.set_cons_zero, List.set_cons_succ]
              refine wpAnyH_done (by kernel_rfl) ?_ _
              have HSf := Aside0.mk HS7.out.same
              clear s0 s1 s2 s3 s4 s5 s6 s7 s8 s9 s10 s11 t0 t1 t2 t3 t4 t5 t6 t7 t8 t9 t10 t11
              go_wp2_with fail
              refine bodyPost_ret (ret_rec (r := ⟨r0, r1, r2, r3, p, []⟩) HSf.out.box rfl rfl) rfl ⟨⟨r0, r1, r2, r3, p, []⟩, .slice A4 p.f2.f4.length c4, .slice none 0 0, by rw [HPO.out]; rfl, ?_, Kd.R_nil _ _ _ _ _, fun y hy => (by rw [HPO.out] at hy; cases hy), HSf.out.low⟩
              exact Kd.R_mono (Kd.R_grown (row := some w.heap.size) HV7.out (put12_grown _ _ _ _ _ _ _ _ _ _ _ _ _ _) (fun j hj e => hj (Option.some.inj e))) (fun _ _ => trivial)
          · have hz : (ep == 0) = false := beq_eq_false_iff_ne.2 hep
            have HPO : Aside0 (pRec l = none) := ⟨by rw [HP.out, if_neg (fun h => hep h.1)]⟩
            clear HP hep
            have hS := RBX.of HS6.out
            refine wp_region_held_drew (S := fun w' => RBX w w.heap.size g ⟨r0, r1, r2, r3, p, []⟩ (.slice A4 p.f2.f4.length c4) (.slice none 0 0) (y, 0) l w') (by kernel_rfl) hS.drew (fun hHeld => ?_)
            refine takeH (i := 0) (some 55) (v := ?_) rfl rfl (by kernel_rfl) (by kernel_rfl) (by kernel_rfl) (fun _ _ _ h => h) (Or.inl ⟨by kernel_rfl, ?_⟩) (by assumption) ?_
            rotate_left
            · (rintro w' ⟨s0, s1, s2, s3, s4, s5, s6, s7, s8, s9, s10, s11, t0, t1, t2, t3, t4, t5, t6, t7, t8, t9, t10, t11, s⟩; go_simp; first | done | with_reducible rfl)
            simp only [Act.put, List.setIfInBounds_toArray, List.set_cons_zero, List.set_cons_succ]
            refine takeH (i := 1) (some 56) (v := ?_) rfl rfl (by kernel_rfl) (by kernel_rfl) (by kernel_rfl) (fun _ _ _ h => h) (Or.inl ⟨by kernel_rfl, ?_⟩) (by assumption) ?_
            rotate_left
            · (rintro w' ⟨s0, s1, s2, s3, s4, s5, s6, s7, s8, s9, s10, s11, t0, t1, t2, t3, t4, t5, t6, t7, t8, t9, t10, t11, s⟩; go_simp; first | done | with_reducible rfl)
            simp only [Act.put, List.setIfInBounds_toArray, List.set_cons_zero, List.set_cons_succ]
            refine takeH (i := 2) (some 57) (v := ?_) rfl rfl (by kernel_rfl) (by kernel_rfl) (by kernel_rfl) (fun _ _ _ h => h) (Or.inl ⟨by kernel_rfl, ?_⟩) (by assumption) ?_
            rotate_left
            · (rintro w' ⟨s0, s1, s2, s3, s4, s5, s6, s7, s8, s9, s10, s11, t0, t1, t2, t3, t4, t5, t6, t7, t8, t9, t10, t11, s⟩; go_simp; first | done | with_reducible rfl)
            simp only [Act.put, List.setIfInBounds_toArray, List.set_cons_zero, List.set_cons_succ]
            refine takeH (i := 3) (some 58) (v := ?_) rfl rfl (by kernel_rfl) (by kernel_rfl) (by kernel_rfl) (fun _ _ _ h => h) (Or.inl ⟨by kernel_rfl, ?_⟩) (by assumption) ?_
            rotate_left
            · (rintro w' ⟨s0, s1, s2, s3, s4, s5, s6, s7, s8, s9, s10, s11, t0, t1, t2, t3, t4, t5, t6, t7, t8, t9, t10, t11, s⟩; go_simp; first | done | with_reducible rfl)
            simp only [Act.put, List.setIfInBounds_toArray, List.set_cons_zero, List.set_cons_succ]
            refine skipH (i := 4) (some 59) rfl rfl (by kernel_rfl) (by kernel_rfl) (by kernel_rfl) (fun _ _ _ h => h) (by kernel_rfl) (by assumption) ?_
            simp only [Act.put, List.setIfInBounds_toArray, List.set_cons_zero, List.set_cons_succ]
            refine skipH (i := 5) (some 60) rfl rfl (by kernel_rfl) (by kernel_rfl) (by kernel_rfl) (fun _ _ _ h => h) (by kernel_rfl) (by assumption) ?_
            simp only [Act.put, List.setIfInBounds_toArray, List.set_cons_zero, List.set_cons_succ]
            refine skipH (i := 6) (some 61) rfl rfl (by kernel_rfl) (by kernel_rfl) (by kernel_rfl) (fun _ _ _ h => h) (by kernel_rfl) (by assumption) ?_
            simp only [Act.put, List.setIfInBounds_toArray, List.set_cons_zero, List.set_cons_succ]
            refine takeH (i := 7) (some 62) (v := ?_) rfl rfl (by kernel_rfl) (by kernel_rfl) (by kernel_rfl) (fun _ _ _ h => h) (Or.inl ⟨by kernel_rfl, ?_⟩) (by assumption) ?_
            rotate_left
            · (rintro w' ⟨s0, s1, s2, s3, s4, s5, s6, s7, s8, s9, s10, s11, t0, t1, t2, t3, t4, t5, t6, t7, t8, t9, t10, t11, s⟩; go_simp; first | done | with_reducible rfl)
            simp only [Act.put, List.setIfInBounds_toArray, List.set_cons_zero, List.set_cons_succ]
            refine wpAnyH_ready (rs := [8]) (by kernel_rfl) (by simp) ?_
            refine AllReadyH.cons rfl (fun K hK => ?_) AllReadyH.nil
            obtain ⟨s0, s1, s2, s3, s4, s5, s6, s7, s8, s9, s10, s11, t0, t1, t2, t3, t4, t5, t6, t7, t8, t9, t10, t11, _⟩ := hS
            go_simp
            refine hK.out _ _ ?_ (fun hHeld => ?_)
            · exact RBX.drew (RBX.of HS6.out.same)
            clear hK K
            try simp only [Act.put, List.setIfInBounds_toArray, List.set_cons_zero, List.set_cons_succ]
            refine takeH (i := 9) (some 3) (v := ?_) rfl rfl (by kernel_rfl) (by kernel_rfl) (by kernel_rfl) (fun _ _ _ h => h) (Or.inl ⟨by kernel_rfl, ?_⟩) (by assumption) ?_
            rotate_left
            · (rintro w' ⟨s0, s1, s2, s3, s4, s5, s6, s7, s8, s9, s10, s11, t0, t1, t2, t3, t4, t5, t6, t7, t8, t9, t10, t11, s⟩; go_simp; first | done | with_reducible rfl)
            simp only [Act.put, List.setIfInBounds_toArray, List.set_cons_zero, List.set_cons_succ]
            refine wpAnyH_done (by kernel_rfl) ?_ _
            have HSf := Aside0.mk (HS6.out.same.below (below_drew (Below.refl _ _)))
            clear s0 s1 s2 s3 s4 s5 s6 s7 s8 s9 s10 s11 t0 t1 t2 t3 t4 t5 t6 t7 t8 t9 t10 t11
            go_wp2_with fail
            refine bodyPost_ret (ret_rec (r := ⟨r0, r1, r2, r3, p, []⟩) HSf.out.box rfl rfl) rfl ⟨⟨r0, r1, r2, r3, p, []⟩, .slice A4 p.f2.f4.length c4, .slice none 0 0, by rw [HPO.out]; rfl, ?_, Kd.R_nil _ _ _ _ _, fun y hy => (by rw [HPO.out] at hy; cases hy), HSf.out.low⟩
            exact Kd.R_mono (Kd.R_below (Kd.R_grown (row := some w.heap.size) HV6.out (put12_grown _ _ _ _ _ _ _ _ _ _ _ _ _ _) (fun j hj e => hj (Option.some.inj e))) (below_drew (Below.refl _ _))) (fun _ _ => trivial)
      case rest =>
        clear HS hp2
        obtain ⟨rows, u5, x', er, rfl, HS, HV, HP⟩ := hcut
        obtain ⟨ya, ea⟩ := x'
        obtain ⟨B5, d5, e5⟩ := Kd.R_slice HV.out
        subst e5
        have hend := rd_End wc.drew g ya ea (HS.out.rd.below (below_drew (Below.refl _ _)))
        by_cases her : er = 0
        · subst her
          have hz0 : ((0 : Int) == 0) = true := rfl
          by_cases hen : rEnd ya ea = 0
          · rw [hen] at hend
            have HEND := Aside0.mk hend
            obtain ⟨_, hn1, hr1⟩ := Kd.R_reads' (Kd.R_below HV.out (below_drew (Below.refl wc.heap.size wc)))
            have hlow := HS.out.low.trans ((below_drew (Below.refl wc.heap.size wc)).mono HS.out.low.size)
            have hck := record_Check wc.drew none B5 0 d5 ⟨r0, r1, r2, r3, zEnt, rows⟩ (HG.out.keep hlow HG.out.lt) (HH.out.keep hlow HH.out.lt) (Kd.C_nil _ _) (Nat.le_refl _) hr1 hn1
            by_cases hre : recE (⟨r0, r1, r2, r3, zEnt, rows⟩ : Rec) = 0
            · rw [hre] at hck
              have HCK := Aside0.mk hck
              have HPO : Aside0 (pRec l = some ⟨r0, r1, r2, r3, zEnt, rows⟩) := ⟨by rw [HP.out, if_pos ⟨rfl, hen, hre⟩]⟩
              clear HP hre hck hn1 hr1 hlow hen hend
              go_upto_region 18 with fail
              have hS := RBX.of HS.out
              refine wp_region_held_drew (S := fun w' => RBX w w.heap.size g ⟨r0, r1, r2, r3, zEnt, rows⟩ (.slice none 0 0) (.slice B5 rows.length d5) (ya, ea) l w') (by kernel_rfl) hS.drew (fun hHeld => ?_)
              refine takeH (i := 0) (some 74) (v := ?_) rfl rfl (by kernel_rfl) (by kernel_rfl) (by kernel_rfl) (fun _ _ _ h => h) (Or.inl ⟨by kernel_rfl, ?_⟩) (by assumption) ?_
              rotate_left
              · (rintro w' ⟨s0, s1, s2, s3, s4, s5, s6, s7, s8, s9, s10, s11, t0, t1, t2, t3, t4, t5, t6, t7, t8, t9, t10, t11, s⟩; go_simp; first | done | with_reducible rfl)
              simp only [Act.put, List.setIfInBounds_toArray, List.set_cons_zero, List.set_cons_succ]
              refine takeH (i := 1) (some 75) (v := ?_) rfl rfl (by kernel_rfl) (by kernel_rfl) (by kernel_rfl) (fun _ _ _ h => h) (Or.inl ⟨by kernel_rfl, ?_⟩) (by assumption) ?_
              rotate_left
              · (rintro w' ⟨s0, s1, s2, s3, s4, s5, s6, s7, s8, s9, s10, s11, t0, t1, t2, t3, t4, t5, t6, t7, t8, t9, t10, t11, s⟩; go_simp; first | done | with_reducible rfl)
              simp only [Act.put, List.setIfInBounds_toArray, List.set_cons_zero, List.set_cons_succ]
              refine takeH (i := 2) (some 76) (v := ?_) rfl rfl (by kernel_rfl) (by kernel_rfl) (by kernel_rfl) (fun _ _ _ h => h) (Or.inl ⟨by kernel_rfl, ?_⟩) (by assumption) ?_
              rotate_left
              · (rintro w' ⟨s0, s1, s2, s3, s4, s5, s6, s7, s8, s9, s10, s11, t0, t1, t2, t3, t4, t5, t6, t7, t8, t9, t10, t11, s⟩; go_simp; first | done | with_reducible rfl)
              simp only [Act.put, List.setIfInBounds_toArray, List.set_cons_zero, List.set_cons_succ]
              refine takeH (i := 3) (some 77) (v := ?_) rfl rfl (by kernel_rfl) (by kernel_rfl) (by kernel_rfl) (fun _ _ _ h => h) (Or.inl ⟨by kernel_rfl, ?_⟩) (by assumption) ?_
              rotate_left
              · (rintro w' ⟨s0, s1, s2, s3, s4, s5, s6, s7, s8, s9, s10, s11, t0, t1, t2, t3, t4, t5, t6, t7, t8, t9, t10, t11, s⟩; go_simp; first | done | with_reducible rfl)
              simp only [Act.put, List.setIfInBounds_toArray, List.set_cons_zero, List.set_cons_succ]
              refine takeH (i := 4) (some 78) (v := ?_) rfl rfl (by kernel_rfl) (by kernel_rfl) (by kernel_rfl) (fun _ _ _ h => h) (Or.inl ⟨by kernel_rfl, ?_⟩) (by assumption) ?_
              rotate_left
              · (rintro w' ⟨s0, s1, s2, s3, s4, s5, s6, s7, s8, s9, s10, s11, t0, t1, t2, t3, t4, t5, t6, t7, t8, t9, t10, t11, s⟩; go_simp; first | done | with_reducible rfl)
              simp only [Act.put, List.setIfInBounds_toArray, List.set_cons_zero, List.set_cons_succ]
              refine wpAnyH_ready (rs := [5]) (by kernel_rfl) (by simp) ?_
              refine AllReadyH.cons rfl (fun K hK => ?_) AllReadyH.nil
              go_simp
              refine HEND.out.mono ?_; rintro e w7 ⟨rfl, rfl⟩
              refine hK.out _ _ ?_ (fun hHeld => ?_)
              · assumption
              clear hK K
              try simp only [Act.put, List.setIfInBounds_toArray, List.set_cons_zero, List.set_cons_succ]
              refine takeH (i := 6) (some 80) (v := ?_) rfl rfl (by kernel_rfl) (by kernel_rfl) (by kernel_rfl) (fun _ _ _ h => h) (Or.inl ⟨by kernel_rfl, ?_⟩) (by assumption) ?_
              rotate_left
              · (rintro w' ⟨s0, s1, s2, s3, s4, s5, s6, s7, s8, s9, s10, s11, t0, t1, t2, t3, t4, t5, t6, t7, t8, t9, t10, t11, s⟩; go_simp; first | done | with_reducible rfl)
              simp only [Act.put, List.setIfInBounds_toArray, List.set_cons_zero, List.set_cons_succ]
              refine takeH (i := 7) (some 81) (v := ?_) rfl rfl (by kernel_rfl) (by kernel_rfl) (by kernel_rfl) (fun _ _ _ h => h) (Or.inl ⟨by kernel_rfl, ?_⟩) (by assumption) ?_
              rotate_left
              · (rintro w' ⟨s0, s1, s2, s3, s4, s5, s6, s7, s8, s9, s10, s11, t0, t1, t2, t3, t4, t5, t6, t7, t8, t9, t10, t11, s⟩; go_simp; first | done | with_reducible rfl)
              simp only [Act.put, List.setIfInBounds_toArray, List.set_cons_zero, List.set_cons_succ]
              refine takeH (i := 8) (some 82) (v := ?_) rfl rfl (by kernel_rfl) (by kernel_rfl) (by kernel_rfl) (fun _ _ _ h => h) (Or.inl ⟨by kernel_rfl, ?_⟩) (by assumption) ?_
              rotate_left
              · (rintro w' ⟨s0, s1, s2, s3, s4, s5, s6, s7, s8, s9, s10, s11, t0, t1, t2, t3, t4, t5, t6, t7, t8, t9, t10, t11, s⟩; go_simp; first | done | with_reducible rfl)
              simp only [Act.put, List.setIfInBounds_toArray, List.set_cons_zero, List.set_cons_succ]
              refine takeH (i := 9) (some 83) (v := ?_) rfl rfl (by kernel_rfl) (by kernel_rfl) (by kernel_rfl) (fun _ _ _ h => h) (Or.inl ⟨by kernel_rfl, ?_⟩) (by assumption) ?_
              rotate_left
              · (rintro w' ⟨s0, s1, s2, s3, s4, s5, s6, s7, s8, s9, s10, s11, t0, t1, t2, t3, t4, t5, t6, t7, t8, t9, t10, t11, s⟩; go_simp; first | done | with_reducible rfl)
              simp only [Act.put, List.setIfInBounds_toArray, List.set_cons_zero, List.set_cons_succ]
              refine wpAnyH_ready (rs := [10]) (by kernel_rfl) (by simp) ?_
              refine AllReadyH.cons rfl (fun K hK => ?_) AllReadyH.nil
              go_simp
              refine HCK.out.mono ?_; rintro e w8 ⟨rfl, hb⟩
              refine hK.out _ _ ?_ (fun hHeld => ?_)
              · exact RBX.next hb (RBX.drew hS)
              clear hK K
              try simp only [Act.put, List.setIfInBounds_toArray, List.set_cons_zero, List.set_cons_succ]
              refine takeH (i := 11) (some 85) (v := ?_) rfl rfl (by kernel_rfl) (by kernel_rfl) (by kernel_rfl) (fun _ _ _ h => h) (Or.inl ⟨by kernel_rfl, ?_⟩) (by assumption) ?_
              rotate_left
              · (rintro w' ⟨s0, s1, s2, s3, s4, s5, s6, s7, s8, s9, s10, s11, t0, t1, t2, t3, t4, t5, t6, t7, t8, t9, t10, t11, s⟩; go_simp; first | done | with_reducible rfl)
              simp only [Act.put, List.setIfInBounds_toArray, List.set_cons_zero, List.set_cons_succ]
              refine takeH (i := 12) (some 86) (v := ?_) rfl rfl (by kernel_rfl) (by kernel_rfl) (by kernel_rfl) (fun _ _ _ h => h) (Or.inl ⟨by kernel_rfl, ?_⟩) (by assumption) ?_
              rotate_left
              · (rintro w' ⟨s0, s1, s2, s3, s4, s5, s6, s7, s8, s9, s10, s11, t0, t1, t2, t3, t4, t5, t6, t7, t8, t9, t10, t11, s⟩; go_simp; first | done | with_reducible rfl)
              simp only [Act.put, List.setIfInBounds_toArray, List.set_cons_zero, List.set_cons_succ]
              have HS7 := Aside0.mk (RBX.st hHeld)
              have HV7 := Aside0.mk (Kd.R_below (Kd.R_below HV.out (below_drew (Below.refl _ _))) hb)
              refine wpAnyH_ready (rs := [13]) (by kernel_rfl) (by simp) ?_
              refine AllReadyH.cons rfl (fun K hK => ?_) AllReadyH.nil
              clear hS hHeld
              have hS := RBX.of HS7.out
              obtain ⟨s0, s1, s2, s3, s4, s5, s6, s7, s8, s9, s10, s11, t0, t1, t2, t3, t4, t5, t6, t7, t8, t9, t10, t11, _⟩ := hS
              go_simp
              refine hK.out _ _ ?_ (fun hHeld => ?_)
              · exact RBX.of HS7.out.same
              clear hK K
              try simp only [Act.put, List.setIfInBounds_toArray, List.set_cons_zero, List.set_cons_succ]
              refine takeH (i := 14) (some 3) (v := ?_) rfl rfl (by kernel_rfl) (by kernel_rfl) (by kernel_rfl) (fun _ _ _ h => h) (Or.inl ⟨by kernel_rfl, ?_⟩) (by assumption) ?_
              rotate_left
              · (rintro w' ⟨s0, s1, s2, s3, s4, s5, s6, s7, s8, s9, s10, s11, t0, t1, t2, t3, t4, t5, t6, t7, t8, t9, t10, t11, s⟩; go_simp; first | done | with_reducible rfl)
              simp only [Act.put, List.setIfInBounds_toArray, List.set_cons_zero, List.set_cons_succ]
              refine wpAnyH_done (by kernel_rfl) ?_ _
              have HSf := Aside0.mk HS7.out.same
              clear s0 s1 s2 s3 s4 s5 s6 s7 s8 s9 s10 s11 t0 t1 t2 t3 t4 t5 t6 t7 t8 t9 t10 t11
              go_wp2_with fail
              refine bodyPost_ret (ret_rec (r := ⟨r0, r1, r2, r3, zEnt, rows⟩) HSf.out.box rfl rfl) rfl ⟨⟨r0, r1, r2, r3, zEnt, rows⟩, .slice none 0 0, .slice B5 rows.length d5, by rw [HPO.out]; rfl, Kd.R_nil _ _ _ _ _, ?_, fun y hy => (by rw [HPO.out] at hy; cases hy; rfl), HSf.out.low⟩
              exact Kd.R_mono (Kd.R_grown (row := some w.heap.size) HV7.out (put12_grown _ _ _ _ _ _ _ _ _ _ _ _ _ _) (fun j hj e => hj (Option.some.inj e))) (fun _ _ => trivial)
            · have hre2 : recE (⟨r0, r1, r2, r3, zEnt, rows⟩ : Rec) = 2 := by
                unfold recE at hre ⊢
                split at hre
                · exact absurd rfl hre
                · rename_i h; rw [if_neg h]
              rw [hre2] at hck
              have HCK := Aside0.mk hck
              have HPO : Aside0 (pRec l = none) := ⟨by rw [HP.out, if_neg (fun h => hre h.2.2)]⟩
              clear HP hre hre2 hck hn1 hr1 hlow hen hend
              go_upto_region 18 with fail
              have hS := RBX.of HS.out
              refine wp_region_held_drew (S := fun w' => RBX w w.heap.size g ⟨r0, r1, r2, r3, zEnt, rows⟩ (.slice none 0 0) (.slice B5 rows.length d5) (ya, ea) l w') (by kernel_rfl) hS.drew (fun hHeld => ?_)
              refine takeH (i := 0) (some 74) (v := ?_) rfl rfl (by kernel_rfl) (by kernel_rfl) (by kernel_rfl) (fun _ _ _ h => h) (Or.inl ⟨by kernel_rfl, ?_⟩) (by assumption) ?_
              rotate_left
              · (rintro w' ⟨s0, s1, s2, s3, s4, s5, s6, s7, s8, s9, s10, s11, t0, t1, t2, t3, t4, t5, t6, t7, t8, t9, t10, t11, s⟩; go_simp; first | done | with_reducible rfl)
              simp only [Act.put, List.setIfInBounds_toArray, List.set_cons_zero, List.set_cons_succ]
              refine takeH (i := 1) (some 75) (v := ?_) rfl rfl (by kernel_rfl) (by kernel_rfl) (by kernel_rfl) (fun _ _ _ h => h) (Or.inl ⟨by kernel_rfl, ?_⟩) (by assumption) ?_
              rotate_left
              · (rintro w' ⟨s0, s1, s2, s3, s4, s5, s6, s7, s8, s9, s10, s11, t0, t1, t2, t3, t4, t5, t6, t7, t8, t9, t10, t11, s⟩; go_simp; first | done | with_reducible rfl)
              simp only [Act.put, List.setIfInBounds_toArray, List.set_cons_zero, List.set_cons_succ]
              refine takeH (i := 2) (some 76) (v := ?_) rfl rfl (by kernel_rfl) (by kernel_rfl) (by kernel_rfl) (fun _ _ _ h => h) (Or.inl ⟨by kernel_rfl, ?_⟩) (by assumption) ?_
              rotate_left
              · (rintro w' ⟨s0, s1, s2, s3, s4, s5, s6, s7, s8, s9, s10, s11, t0, t1, t2, t3, t4, t5, t6, t7, t8, t9, t10, t11, s⟩; go_simp; first | done | with_reducible rfl)
              simp only [Act.put, List.setIfInBounds_toArray, List.set_cons_zero, List.set_cons_succ]
              refine takeH (i := 3) (some 77) (v := ?_) rfl rfl (by kernel_rfl) (by kernel_rfl) (by kernel_rfl) (fun _ _ _ h => h) (Or.inl ⟨by kernel_rfl, ?_⟩) (by assumption) ?_
              rotate_left
              · (rintro w' ⟨s0, s1, s2, s3, s4, s5, s6, s7, s8, s9, s10, s11, t0, t1, t2, t3, t4, t5, t6, t7, t8, t9, t10, t11, s⟩; go_simp; first | done | with_reducible rfl)
              simp only [Act.put, List.setIfInBounds_toArray, List.set_cons_zero, List.set_cons_succ]
              refine takeH (i := 4) (some 78) (v := ?_) rfl rfl (by kernel_rfl) (by kernel_rfl) (by kernel_rfl) (fun _ _ _ h => h) (Or.inl ⟨by kernel_rfl, ?_⟩) (by assumption) ?_
              rotate_left
              · (rintro w' ⟨s0, s1, s2, s3, s4, s5, s6, s7, s8, s9, s10, s11, t0, t1, t2, t3, t4, t5, t6, t7, t8, t9, t10, t11, s⟩; go_simp; first | done | with_reducible rfl)
              simp only [Act.put, List.setIfInBounds_toArray, List.set_cons_zero, List.set_cons_succ]
              refine wpAnyH_ready (rs := [5]) (by kernel_rfl) (by simp) ?_
              refine AllReadyH.cons rfl (fun K hK => ?_) AllReadyH.nil
              go_simp
              refine HEND.out.mono ?_; rintro e w7 ⟨rfl, rfl⟩
              refine hK.out _ _ ?_ (fun hHeld => ?_)
              · assumption
              clear hK K
              try simp only [Act.put, List.setIfInBounds_toArray, List.set_cons_zero, List.set_cons_succ]
              refine takeH (i := 6) (some 80) (v := ?_) rfl rfl (by kernel_rfl) (by kernel_rfl) (by kernel_rfl) (fun _ _ _ h => h) (Or.inl ⟨by kernel_rfl, ?_⟩) (by assumption) ?_
              rotate_left
              · (rintro w' ⟨s0, s1, s2, s3, s4, s5, s6, s7, s8, s9, s10, s11, t0, t1, t2, t3, t4, t5, t6, t7, t8, t9, t10, t11, s⟩; go_simp; first | done | with_reducible rfl)
              simp only [Act.put, List.setIfInBounds_toArray, List.set_cons_zero, List.set_cons_succ]
              refine takeH (i := 7) (some 81) (v := ?_) rfl rfl (by kernel_rfl) (by kernel_rfl) (by kernel_rfl) (fun _ _ _ h => h) (Or.inl ⟨by kernel_rfl, ?_⟩) (by assumption) ?_
              rotate_left
              · (rintro w' ⟨s0, s1, s2, s3, s4, s5, s6, s7, s8, s9, s10, s11, t0, t1, t2, t3, t4, t5, t6, t7, t8, t9, t10, t11, s⟩; go_simp; first | done | with_reducible rfl)
              simp only [Act.put, List.setIfInBounds_toArray, List.set_cons_zero, List.set_cons_succ]
              refine takeH (i := 8) (some 82) (v := ?_) rfl rfl (by kernel_rfl) (by kernel_rfl) (by kernel_rfl) (fun _ _ _ h => h) (Or.inl ⟨by kernel_rfl, ?_⟩) (by assumption) ?_
              rotate_left
              · (rintro w' ⟨s0, s1, s2, s3, s4, s5, s6, s7, s8, s9, s10, s11, t0, t1, t2, t3, t4, t5, t6, t7, t8, t9, t10, t11, s⟩; go_simp; first | done | with_reducible rfl)
              simp only [Act.put, List.setIfInBounds_toArray, List.set_cons_zero, List.set_cons_succ]
              refine takeH (i := 9) (some 83) (v := ?_) rfl rfl (by kernel_rfl) (by kernel_rfl) (by kernel_rfl) (fun _ _ _ h => h) (Or.inl ⟨by kernel_rfl, ?_⟩) (by assumption) ?_
              rotate_left
              · (rintro w' ⟨s0, s1, s2, s3, s4, s5, s6, s7, s8, s9, s10, s11, t0, t1, t2, t3, t4, t5, t6, t7, t8, t9, t10, t11, s⟩; go_simp; first | done | with_reducible rfl)
              simp only [Act.put, List.setIfInBounds_toArray, List.set_cons_zero, List.set_cons_succ]
              refine wpAnyH_ready (rs := [10]) (by kernel_rfl) (by simp) ?_
              refine AllReadyH.cons rfl (fun K hK => ?_) AllReadyH.nil
              go_simp
              refine HCK.out.mono ?_; rintro e w8 ⟨rfl, hb⟩
              refine hK.out _ _ ?_ (fun hHeld => ?_)
              · exact RBX.next hb (RBX.drew hS)
              clear hK K
              try simp only [Act.put, List.setIfInBounds_toArray, List.set_cons_zero, List.set_cons_succ]
              refine takeH (i := 11) (some 85) (v := ?_) rfl rfl (by kernel_rfl) (by kernel_rfl) (by kernel_rfl) (fun _ _ _ h => h) (Or.inl ⟨by kernel_rfl, ?_⟩) (by assumption) ?_
              rotate_left
              · (rintro w' ⟨s0, s1, s2, s3, s4, s5, s6, s7, s8, s9, s10, s11, t0, t1, t2, t3, t4, t5, t6, t7, t8, t9, t10, t11, s⟩; go_simp; first | done | with_reducible rfl)
              simp only [Act.put, List.setIfInBounds_toArray, List.set_cons_zero, List.set_cons_succ]
              refine takeH (i := 12) (some 86) (v := ?_) rfl rfl (by kernel_rfl) (by kernel_rfl) (by kernel_rfl) (fun _ _ _ h => h) (Or.inl ⟨by kernel_rfl, ?_⟩) (by assumption) ?_
              rotate_left
              · (rintro w' ⟨s0, s1, s2, s3, s4, s5, s6, s7, s8, s9, s10, s11, t0, t1, t2, t3, t4, t5, t6, t7, t8, t9, t10, t11, s⟩; go_simp; first | done | with_reducible rfl)
              simp only [Act.put, List.setIfInBounds_toArray, List.set_cons_zero, List.set_cons_succ]
              have HS7 := Aside0.mk (RBX.st hHeld)
              have HV7 := Aside0.mk (Kd.R_below (Kd.R_below HV.out (below_drew (Below.refl _ _))) hb)
              refine wpAnyH_ready (rs := [13]) (by kernel_rfl) (by simp) ?_
              refine AllReadyH.cons rfl (fun K hK => ?_) AllReadyH.nil
              clear hS hHeld
              have hS := RBX.of HS7.out
              obtain ⟨s0, s1, s2, s3, s4, s5, s6, s7, s8, s9, s10, s11, t0, t1, t2, t3, t4, t5, t6, t7, t8, t9, t10, t11, _⟩ := hS
              go_simp
              refine hK.out _ _ ?_ (fun hHeld => ?_)
              · exact RBX.of HS7.out.same
              clear hK K
              try simp only [Act.put, List.setIfInBounds_toArray, List.set_cons_zero, List.set_cons_succ]
              refine takeH (i := 14) (some 3) (v := ?_) rfl rfl (by kernel_rfl) (by kernel_rfl) (by kernel_rfl) (fun _ _ _ h => h) (Or.inl ⟨by kernel_rfl, ?_⟩) (by assumption) ?_
              rotate_left
              · (rintro w' ⟨s0, s1, s2, s3, s4, s5, s6, s7, s8, s9, s10, s11, t0, t1, t2, t3, t4, t5, t6, t7, t8, t9, t10, t11, s⟩; go_simp; first | done | with_reducible rfl)
              simp only [Act.put, List.setIfInBounds_toArray, List.set_cons_zero, List.set_cons_succ]
              refine wpAnyH_done (by kernel_rfl) ?_ _
              have HSf := Aside0.mk HS7.out.same
              clear s0 s1 s2 s3 s4 s5 s6 s7 s8 s9 s10 s11 t0 t1 t2 t3 t4 t5 t6 t7 t8 t9 t10 t11
              go_wp2_with fail
              refine bodyPost_ret (ret_rec (r := ⟨r0, r1, r2, r3, zEnt, rows⟩) HSf.out.box rfl rfl) rfl ⟨⟨r0, r1, r2, r3, zEnt, rows⟩, .slice none 0 0, .slice B5 rows.length d5, by rw [HPO.out]; rfl, Kd.R_nil _ _ _ _ _, ?_, fun y hy => (by rw [HPO.out] at hy; cases hy), HSf.out.low⟩
              exact Kd.R_mono (Kd.R_grown (row := some w.heap.size) HV7.out (put12_grown _ _ _ _ _ _ _ _ _ _ _ _ _ _) (fun j hj e => hj (Option.some.inj e))) (fun _ _ => trivial)
          · have HPO : Aside0 (pRec l = none) := ⟨by rw [HP.out, if_neg (fun h => hen h.2.1)]⟩
            have hz1 : (rEnd ya ea == 0) = false := beq_eq_false_iff_ne.2 hen
            generalize rEnd ya ea = z at *
            have HEND := Aside0.mk hend
            clear HP hen hend
            go_upto_region 18 with fail
            have hS := RBX.of HS.out
            refine wp_region_held_drew (S := fun w' => RBX w w.heap.size g ⟨r0, r1, r2, r3, zEnt, rows⟩ (.slice none 0 0) (.slice B5 rows.length d5) (ya, ea) l w') (by kernel_rfl) hS.drew (fun hHeld => ?_)
            refine takeH (i := 0) (some 74) (v := ?_) rfl rfl (by kernel_rfl) (by kernel_rfl) (by kernel_rfl) (fun _ _ _ h => h) (Or.inl ⟨by kernel_rfl, ?_⟩) (by assumption) ?_
            rotate_left
            · (rintro w' ⟨s0, s1, s2, s3, s4, s5, s6, s7, s8, s9, s10, s11, t0, t1, t2, t3, t4, t5, t6, t7, t8, t9, t10, t11, s⟩; go_simp; first | done | with_reducible rfl)
            simp only [Act.put, List.setIfInBounds_toArray, List.set_cons_zero, List.set_cons_succ]
            refine takeH (i := 1) (some 75) (v := ?_) rfl rfl (by kernel_rfl) (by kernel_rfl) (by kernel_rfl) (fun _ _ _ h => h) (Or.inl ⟨by kernel_rfl, ?_⟩) (by assumption) ?_
            rotate_left
            · (rintro w' ⟨s0, s1, s2, s3, s4, s5, s6, s7, s8, s9, s10, s11, t0, t1, t2, t3, t4, t5, t6, t7, t8, t9, t10, t11, s⟩; go_simp; first | done | with_reducible rfl)
            simp only [Act.put, List.setIfInBounds_toArray, List.set_cons_zero, List.set_cons_succ]
            refine takeH (i := 2) (some 76) (v := ?_) rfl rfl (by kernel_rfl) (by kernel_rfl) (by kernel_rfl) (fun _ _ _ h => h) (Or.inl ⟨by kernel_rfl, ?_⟩) (by assumption) ?_
            rotate_left
            · (rintro w' ⟨s0, s1, s2, s3, s4, s5, s6, s7, s8, s9, s10, s11, t0, t1, t2, t3, t4, t5, t6, t7, t8, t9, t10, t11, s⟩; go_simp; first | done | with_reducible rfl)
            simp only [Act.put, List.setIfInBounds_toArray, List.set_cons_zero, List.set_cons_succ]
            refine takeH (i := 3) (some 77) (v := ?_) rfl rfl (by kernel_rfl) (by kernel_rfl) (by kernel_rfl) (fun _ _ _ h => h) (Or.inl ⟨by kernel_rfl, ?_⟩) (by assumption) ?_
            rotate_left
            · (rintro w' ⟨s0, s1, s2, s3, s4, s5, s6, s7, s8, s9, s10, s11, t0, t1, t2, t3, t4, t5, t6, t7, t8, t9, t10, t11, s⟩; go_simp; first | done | with_reducible rfl)
            simp only [Act.put, List.setIfInBounds_toArray, List.set_cons_zero, List.set_cons_succ]
            refine takeH (i := 4) (some 78) (v := ?_) rfl rfl (by kernel_rfl) (by kernel_rfl) (by kernel_rfl) (fun _ _ _ h => h) (Or.inl ⟨by kernel_rfl, ?_⟩) (by assumption) ?_
            rotate_left
            · (rintro w' ⟨s0, s1, s2, s3, s4, s5, s6, s7, s8, s9, s10, s11, t0, t1, t2, t3, t4, t5, t6, t7, t8, t9, t10, t11, s⟩; go_simp; first | done | with_reducible rfl)
            simp only [Act.put, List.setIfInBounds_toArray, List.set_cons_zero, List.set_cons_succ]
            refine wpAnyH_ready (rs := [5]) (by kernel_rfl) (by simp) ?_
            refine AllReadyH.cons rfl (fun K hK => ?_) AllReadyH.nil
            go_simp
            refine HEND.out.mono ?_; rintro e w7 ⟨rfl, rfl⟩
            refine hK.out _ _ ?_ (fun hHeld => ?_)
            · assumption
            clear hK K
            try simp only [Act.put, List.setIfInBounds_toArray, List.set_cons_zero, List.set_cons_succ]
            refine takeH (i := 6) (some 80) (v := ?_) rfl rfl (by kernel_rfl) (by kernel_rfl) (by kernel_rfl) (fun _ _ _ h => h) (Or.inl ⟨by kernel_rfl, ?_⟩) (by assumption) ?_
            rotate_left
            · (rintro w' ⟨s0, s1, s2, s3, s4, s5, s6, s7, s8, s9, s10, s11, t0, t1, t2, t3, t4, t5, t6, t7, t8, t9, t10, t11, s⟩; go_simp; first | done | with_reducible rfl)
            simp only [Act.put, List.setIfInBounds_toArray, List.set_cons_zero, List.set_cons_succ]
            refine takeH (i := 7) (some 81) (v := ?_) rfl rfl (by kernel_rfl) (by kernel_rfl) (by kernel_rfl) (fun _ _ _ h => h) (Or.inl ⟨by kernel_rfl, ?_⟩) (by assumption) ?_
            rotate_left
            · (rintro w' ⟨s0, s1, s2, s3, s4, s5, s6, s7, s8, s9, s10, s11, t0, t1, t2, t3, t4, t5, t6, t7, t8, t9, t10, t11, s⟩; go_simp; first | done | with_reducible rfl)
            simp only [Act.put, List.setIfInBounds_toArray, List.set_cons_zero, List.set_cons_succ]
            refine takeH (i := 8) (some 82) (v := ?_) rfl rfl (by kernel_rfl) (by kernel_rfl) (by kernel_rfl) (fun _ _ _ h => h) (Or.inl ⟨by kernel_rfl, ?_⟩) (by assumption) ?_
            rotate_left
            · (rintro w' ⟨s0, s1, s2, s3, s4, s5, s6, s7, s8, s9, s10, s11, t0, t1, t2, t3, t4, t5, t6, t7, t8, t9, t10, t11, s⟩; go_simp; first | done | with_reducible rfl)
            simp only [Act.put, List.setIfInBounds_toArray, List.set_cons_zero, List.set_cons_succ]
            refine skipH (i := 9) (some 83) rfl rfl (by kernel_rfl) (by kernel_rfl) (by kernel_rfl) (fun _ _ _ h => h) (by kernel_rfl) (by assumption) ?_
            simp only [Act.put, List.setIfInBounds_toArray, List.set_cons_zero, List.set_cons_succ]
            refine skipH (i := 10) (some 84) rfl rfl (by kernel_rfl) (by kernel_rfl) (by kernel_rfl) (fun _ _ _ h => h) (by kernel_rfl) (by assumption) ?_
            simp only [Act.put, List.setIfInBounds_toArray, List.set_cons_zero, List.set_cons_succ]
            refine skipH (i := 11) (some 85) rfl rfl (by kernel_rfl) (by kernel_rfl) (by kernel_rfl) (fun _ _ _ h => h) (by kernel_rfl) (by assumption) ?_
            simp only [Act.put, List.setIfInBounds_toArray, List.set_cons_zero, List.set_cons_succ]
            refine takeH (i := 12) (some 86) (v := ?_) rfl rfl (by kernel_rfl) (by kernel_rfl) (by kernel_rfl) (fun _ _ _ h => h) (Or.inl ⟨by kernel_rfl, ?_⟩) (by assumption) ?_
            rotate_left
            · (rintro w' ⟨s0, s1, s2, s3, s4, s5, s6, s7, s8, s9, s10, s11, t0, t1, t2, t3, t4, t5, t6, t7, t8, t9, t10, t11, s⟩; go_simp; first | done | with_reducible rfl)
            simp only [Act.put, List.setIfInBounds_toArray, List.set_cons_zero, List.set_cons_succ]
            have HS7 := HS
            have HV7 := HV
            refine wpAnyH_ready (rs := [13]) (by kernel_rfl) (by simp) ?_
            refine AllReadyH.cons rfl (fun K hK => ?_) AllReadyH.nil
            clear hS hHeld
            have hS := RBX.of HS7.out
            obtain ⟨s0, s1, s2, s3, s4, s5, s6, s7, s8, s9, s10, s11, t0, t1, t2, t3, t4, t5, t6, t7, t8, t9, t10, t11, _⟩ := hS
            go_simp
            refine hK.out _ _ ?_ (fun hHeld => ?_)
            · exact RBX.drew (RBX.of HS7.out.same)
            clear hK K
            try simp only [Act.put, List.setIfInBounds_toArray, List.set_cons_zero, List.set_cons_succ]
            refine takeH (i := 14) (some 3) (v := ?_) rfl rfl (by kernel_rfl) (by kernel_rfl) (by kernel_rfl) (fun _ _ _ h => h) (Or.inl ⟨by kernel_rfl, ?_⟩) (by assumption) ?_
            rotate_left
            · (rintro w' ⟨s0, s1, s2, s3, s4, s5, s6, s7, s8, s9, s10, s11, t0, t1, t2, t3, t4, t5, t6, t7, t8, t9, t10, t11, s⟩; go_simp; first | done | with_reducible rfl)
            simp only [Act.put, List.setIfInBounds_toArray, List.set_cons_zero, List.set_cons_succ]
            refine wpAnyH_done (by kernel_rfl) ?_ _
            have HSf := Aside0.mk (HS7.out.same.below (below_drew (Below.refl _ _)))
            clear s0 s1 s2 s3 s4 s5 s6 s7 s8 s9 s10 s11 t0 t1 t2 t3 t4 t5 t6 t7 t8 t9 t10 t11
            go_wp2_with fail
            refine bodyPost_ret (ret_rec (r := ⟨r0, r1, r2, r3, zEnt, rows⟩) HSf.out.box rfl rfl) rfl ⟨⟨r0, r1, r2, r3, zEnt, rows⟩, .slice none 0 0, .slice B5 rows.length d5, by rw [HPO.out]; rfl, Kd.R_nil _ _ _ _ _, ?_, fun y hy => (by rw [HPO.out] at hy; cases hy), HSf.out.low⟩
            exact Kd.R_mono (Kd.R_below (Kd.R_grown (row := some w.heap.size) HV7.out (put12_grown _ _ _ _ _ _ _ _ _ _ _ _ _ _) (fun j hj e => hj (Option.some.inj e))) (below_drew (Below.refl _ _))) (fun _ _ => trivial)
        · have hz0 : (er == 0) = false := beq_eq_false_iff_ne.2 her
          have HPO : Aside0 (pRec l = none) := ⟨by rw [HP.out, if_neg (fun h => her h.1)]⟩
          clear HP her hend
          go_upto_region 18 with fail
          have hS := RBX.of HS.out
          refine wp_region_held_drew (S := fun w' => RBX w w.heap.size g ⟨r0, r1, r2, r3, zEnt, rows⟩ (.slice none 0 0) (.slice B5 rows.length d5) (ya, ea) l w') (by kernel_rfl) hS.drew (fun hHeld => ?_)
          refine takeH (i := 0) (some 74) (v := ?_) rfl rfl (by kernel_rfl) (by kernel_rfl) (by kernel_rfl) (fun _ _ _ h => h) (Or.inl ⟨by kernel_rfl, ?_⟩) (by assumption) ?_
          rotate_left
          · (rintro w' ⟨s0, s1, s2, s3, s4, s5, s6, s7, s8, s9, s10, s11, t0, t1, t2, t3, t4, t5, t6, t7, t8, t9, t10, t11, s⟩; go_simp; first | done | with_reducible rfl)
          simp only [Act.put, List.setIfInBounds_toArray, List.set_cons_zero, List.set_cons_succ]
          refine takeH (i := 1) (some 75) (v := ?_) rfl rfl (by kernel_rfl) (by kernel_rfl) (by kernel_rfl) (fun _ _ _ h => h) (Or.inl ⟨by kernel_rfl, ?_⟩) (by assumption) ?_
          rotate_left
          · (rintro w' ⟨s0, s1, s2, s3, s4, s5, s6, s7, s8, s9, s10, s11, t0, t1, t2, t3, t4, t5, t6, t7, t8, t9, t10, t11, s⟩; go_simp; first | done | with_reducible rfl)
          simp only [Act.put, List.setIfInBounds_toArray, List.set_cons_zero, List.set_cons_succ]
          refine takeH (i := 2) (some 76) (v := ?_) rfl rfl (by kernel_rfl) (by kernel_rfl) (by kernel_rfl) (fun _ _ _ h => h) (Or.inl ⟨by kernel_rfl, ?_⟩) (by assumption) ?_
          rotate_left
          · (rintro w' ⟨s0, s1, s2, s3, s4, s5, s6, s7, s8, s9, s10, s11, t0, t1, t2, t3, t4, t5, t6, t7, t8, t9, t10, t11, s⟩; go_simp; first | done | with_reducible rfl)
          simp only [Act.put, List.setIfInBounds_toArray, List.set_cons_zero, List.set_cons_succ]
          refine takeH (i := 3) (some 77) (v := ?_) rfl rfl (by kernel_rfl) (by kernel_rfl) (by kernel_rfl) (fun _ _ _ h => h) (Or.inl ⟨by kernel_rfl, ?_⟩) (by assumption) ?_
          rotate_left
          · (rintro w' ⟨s0, s1, s2, s3, s4, s5, s6, s7, s8, s9, s10, s11, t0, t1, t2, t3, t4, t5, t6, t7, t8, t9, t10, t11, s⟩; go_simp; first | done | with_reducible rfl)
          simp only [Act.put, List.setIfInBounds_toArray, List.set_cons_zero, List.set_cons_succ]
          refine skipH (i := 4) (some 78) rfl rfl (by kernel_rfl) (by kernel_rfl) (by kernel_rfl) (fun _ _ _ h => h) (by kernel_rfl) (by assumption) ?_
          simp only [Act.put, List.setIfInBounds_toArray, List.set_cons_zero, List.set_cons_succ]
          refine skipH (i := 5) (some 79) rfl rfl (by kernel_rfl) (by kernel_rfl) (by kernel_rfl) (fun _ _ _ h => h) (by kernel_rfl) (by assumption) ?_
          simp only [Act.put, List.setIfInBounds_toArray, List.set_cons_zero, List.set_cons_succ]
          refine skipH (i := 6) (some 80) rfl rfl (by kernel_rfl) (by kernel_rfl) (by kernel_rfl) (fun _ _ _ h => h) (by kernel_rfl) (by assumption) ?_
          simp only [Act.put, List.setIfInBounds_toArray, List.set_cons_zero, List.set_cons_succ]
          refine takeH (i := 7) (some 81) (v := ?_) rfl rfl (by kernel_rfl) (by kernel_rfl) (by kernel_rfl) (fun _ _ _ h => h) (Or.inl ⟨by kernel_rfl, ?_⟩) (by assumption) ?_
          rotate_left
          · (rintro w' ⟨s0, s1, s2, s3, s4, s5, s6, s7, s8, s9, s10, s11, t0, t1, t2, t3, t4, t5, t6, t7, t8, t9, t10, t11, s⟩; go_simp; first | done | with_reducible rfl)
          simp only [Act.put, List.setIfInBounds_toArray, List.set_cons_zero, List.set_cons_succ]
          refine takeH (i := 8) (some 82) (v := ?_) rfl rfl (by kernel_rfl) (by kernel_rfl) (by kernel_rfl) (fun _ _ _ h => h) (Or.inl ⟨by kernel_rfl, ?_⟩) (by assumption) ?_
          rotate_left
          · (rintro w' ⟨s0, s1, s2, s3, s4, s5, s6, s7, s8, s9, s10, s11, t0, t1, t2, t3, t4, t5, t6, t7, t8, t9, t10, t11, s⟩; go_simp; first | done | with_reducible rfl)
          simp only [Act.put, List.setIfInBounds_toArray, List.set_cons_zero, List.set_cons_succ]
          refine skipH (i := 9) (some 83) rfl rfl (by kernel_rfl) (by kernel_rfl) (by kernel_rfl) (fun _ _ _ h => h) (by kernel_rfl) (by assumption) ?_
          simp only [Act.put, List.setIfInBounds_toArray, List.set_cons_zero, List.set_cons_succ]
          refine skipH (i := 10) (some 84) rfl rfl (by kernel_rfl) (by kernel_rfl) (by kernel_rfl) (fun _ _ _ h => h) (by kernel_rfl) (by assumption) ?_
          simp only [Act.put, List.setIfInBounds_toArray, List.set_cons_zero, List.set_cons_succ]
          refine skipH (i := 11) (some 85) rfl rfl (by kernel_rfl) (by kernel_rfl) (by kernel_rfl) (fun _ _ _ h => h) (by kernel_rfl) (by assumption) ?_
          simp only [Act.put, List.setIfInBounds_toArray, List.set_cons_zero, List.set_cons_succ]
          refine takeH (i := 12) (some 86) (v := ?_) rfl rfl (by kernel_rfl) (by kernel_rfl) (by kernel_rfl) (fun _ _ _ h => h) (Or.inl ⟨by kernel_rfl, ?_⟩) (by assumption) ?_
          rotate_left
          · (rintro w' ⟨s0, s1, s2, s3, s4, s5, s6, s7, s8, s9, s10, s11, t0, t1, t2, t3, t4, t5, t6, t7, t8, t9, t10, t11, s⟩; go_simp; first | done | with_reducible rfl)
          simp only [Act.put, List.setIfInBounds_toArray, List.set_cons_zero, List.set_cons_succ]
          have HS7 := HS
          have HV7 := HV
          refine wpAnyH_ready (rs := [13]) (by kernel_rfl) (by simp) ?_
          refine AllReadyH.cons rfl (fun K hK => ?_) AllReadyH.nil
          clear hS hHeld
          have hS := RBX.of HS7.out
          obtain ⟨s0, s1, s2, s3, s4, s5, s6, s7, s8, s9, s10, s11, t0, t1, t2, t3, t4, t5, t6, t7, t8, t9, t10, t11, _⟩ := hS
          go_simp
          refine hK.out _ _ ?_ (fun hHeld => ?_)
          · exact RBX.drew (RBX.of HS7.out.same)
          clear hK K
          try simp only [Act.put, List.setIfInBounds_toArray, List.set_cons_zero, List.set_cons_succ]
          refine takeH (i := 14) (some 3) (v := ?_) rfl rfl (by kernel_rfl) (by kernel_rfl) (by kernel_rfl) (fun _ _ _ h => h) (Or.inl ⟨by kernel_rfl, ?_⟩) (by assumption) ?_
          rotate_left
          · (rintro w' ⟨s0, s1, s2, s3, s4, s5, s6, s7, s8, s9, s10, s11, t0, t1, t2, t3, t4, t5, t6, t7, t8, t9, t10, t11, s⟩; go_simp; first | done | with_reducible rfl)
          simp only [Act.put, List.setIfInBounds_toArray, List.set_cons_zero, List.set_cons_succ]
          refine wpAnyH_done (by kernel_rfl) ?_ _
          have HSf := Aside0.mk (HS7.out.same.below (below_drew (Below.refl _ _)))
          clear s0 s1 s2 s3 s4 s5 s6 s7 s8 s9 s10 s11 t0 t1 t2 t3 t4 t5 t6 t7 t8 t9 t10 t11
          go_wp2_with fail
          refine bodyPost_ret (ret_rec (r := ⟨r0, r1, r2, r3, zEnt, rows⟩) HSf.out.box rfl rfl) rfl ⟨⟨r0, r1, r2, r3, zEnt, rows⟩, .slice none 0 0, .slice B5 rows.length d5, by rw [HPO.out]; rfl, Kd.R_nil _ _ _ _ _, ?_, fun y hy => (by rw [HPO.out] at hy; cases hy), HSf.out.low⟩
          exact Kd.R_mono (Kd.R_below (Kd.R_grown (row := some w.heap.size) HV7.out (put12_grown _ _ _ _ _ _ _ _ _ _ _ _ _ _) (fun j hj e => hj (Option.some.inj e))) (below_drew (Below.refl _ _))) (fun _ _ => trivial)
    · have hp2 : pRec l = none := by
        rw [hp]
        unfold pRec1
        rw [if_pos he]
      have HP := Aside0.mk hp2
      have hz : (e != 0) = true := by rw [bne_iff_ne]; exact he
      clear hp hp2 he
      obtain ⟨⟨q0, q1, q2, q3, q4, q5, q6, q7, q8, q9, q10, q11⟩, ⟨f0, f1, f2, f3, f4, f5, f6, f7, f8, f9, f10, f11⟩⟩ := box12 HS.out.box
      go_wp2_with (first | (go_at_call 54; refine (rd_Err _ g y e HS.out.rd).mono ?_; rintro en w4 ⟨rfl, rfl⟩))
      have HB := below_grownG HS.out.low (put12_grown wc w.heap.size (.int .i64 r0) (.int .i64 r1) (.int .i64 r2) (.int .i64 r3) (.int .i64 zEnt.f0) (.int .i64 zEnt.f1) (.int .i64 zEnt.f2.f0) (.string zEnt.f2.f1) (.int .i64 zEnt.f2.f2) (.int .i64 zEnt.f2.f3) (.slice none 0 0) (.slice none 0 0)) (Nat.le_refl _)
      refine bodyPost_ret (ret_rec (r := ⟨r0, r1, r2, r3, zEnt, []⟩) (put12_box HS.out.box) rfl rfl) rfl ⟨⟨r0, r1, r2, r3, zEnt, []⟩, .slice none 0 0, .slice none 0 0, by rw [HP.out]; rfl, Kd.R_nil _ _ _ _ _, Kd.R_nil _ _ _ _ _, fun y hy => (by rw [HP.out] at hy; cases hy), HB⟩
end Go.Proofs.YtmeblifbkhpdnaaDoor.K
