/- What an op that may be has; the bytes of an op. Pure. -/
import Derived.Test.YtmeblifbkhpdnaaDoorGc
import Derived.Test.YtmeblifbkhpdnaaDoorGb
import Derived.Laws.ResultCell
namespace Go.Proofs.YtmeblifbkhpdnaaDoor.K
set_option linter.unusedVariables false
set_option linter.unusedSimpArgs false
open Go.RowKit Go.Proofs.YtmeblifbkhpdnaaDoorW.PrintWords Go.Proofs.YtmeblifbkhpdnaaDoorW.PrintLast Go.Proofs.YtmeblifbkhpdnaaDoorW.PrintMore
theorem may_on {k a : Int} {x y : Bool} (h : may k a x y = true) (hh : iHas k a = true) : x = true := by
  unfold may at h
  rw [hh] at h
  simpa using h
theorem may_off {k a : Int} {x y : Bool} (h : may k a x y = true) (hh : iHas k a = false) : y = true := by
  unfold may at h
  rw [hh] at h
  simpa using h
theorem within_iff (n a b : Int) : within n a b = true ↔ a ≤ n ∧ n ≤ b := by
  unfold within
  simp
theorem qty_iff (n : Int) : qty n = true ↔ 1 ≤ n ∧ n ≤ 2147483647 := within_iff n 1 2147483647
/-- The parts of opOk. -/
theorem opOk_parts (o : Opn) (h : opOk o = true) : within o.f0 1 9 = true ∧ may o.f0 1 (nameOk o.f1) o.f1.toList.isEmpty = true ∧ may o.f0 2 (qty o.f2) (o.f2 == 0) = true ∧ may o.f0 4 (opN o) (o.f3 == 0) = true ∧ may o.f0 16 (linesOk o.f4) ((o.f4.length : Int) == 0) = true := by
  unfold opOk at h
  simp only [Bool.and_eq_true] at h
  exact h
theorem nameOk_size (s : ByteArray) (h : nameOk s = true) : s.size ≤ 8 := by
  unfold nameOk at h
  simp at h
  exact h.2.1
/-- The bytes of a line, of an op. -/
def lineB (x : Line) : List Int := vEnc x.f0.size ++ sB x.f0 ++ vEnc x.f1.toNat
def opB (o : Opn) : List Int :=
  [o.f0 % 256] ++ (if iHas o.f0 1 then vEnc o.f1.size ++ sB o.f1 else []) ++ (if iHas o.f0 2 then vEnc o.f2.toNat else []) ++
    (if iHas o.f0 8 then vEnc (zig o.f3) else if iHas o.f0 4 then vEnc o.f3.toNat else []) ++ (if iHas o.f0 16 then vEnc o.f4.length ++ o.f4.flatMap lineB else [])
theorem lineB_len (x : Line) (h : lineOk x = true) : (lineB x).length ≤ 28 := by
  unfold lineOk at h
  simp only [Bool.and_eq_true] at h
  have h1 := nameOk_size _ h.1
  have h2 := (qty_iff _).1 h.2
  have e1 := vEnc_ten x.f0.size (by omega)
  have e2 := vEnc_ten x.f1.toNat (by omega)
  unfold lineB
  rw [List.length_append, List.length_append, sB_len]
  omega
theorem lines_facts (l : List Line) (h : linesOk l = true) : l.all lineOk = true ∧ 0 < l.length ∧ l.length ≤ 4 ∧ (l.map (·.f0)).Nodup := by
  unfold linesOk at h
  simp only [Bool.and_eq_true, decide_eq_true_eq] at h
  exact h
end Go.Proofs.YtmeblifbkhpdnaaDoor.K
/- Contract of item.Bytes. -/
namespace Go.Proofs.YtmeblifbkhpdnaaDoor.K
set_option linter.unusedVariables false
set_option linter.unusedSimpArgs false
open Go.RowKit Go.Proofs.YtmeblifbkhpdnaaDoorW.PrintWords Go.Proofs.YtmeblifbkhpdnaaDoorW.PrintLast Go.Proofs.YtmeblifbkhpdnaaDoorW.PrintMore
theorem one_lit (e base : Nat) (w : World) (x : Int) (hb : base ≤ w.heap.size) : Kd.R (Kd.int .u8) e (w.alloc (.cells #[.int .u8 x] e)) base (fun _ => True) (.slice (some ⟨w.heap.size, 0, none⟩) 1 1) [x] := by
  refine ⟨fun _ _ => trivial, [.int .u8 x], ?_, ?_⟩
  · have h2 := World.ownsRow_lit (base := base) (e := e) (size := 1) w #[.int .u8 x] 1 hb (by simp [maxLen]) (by simp)
    exact h2
  · refine ⟨rfl, fun j p hj => ?_⟩
    cases j with
    | zero =>
      simp at hj
      subst hj
      rfl
    | succ j => simp at hj
theorem has8_4 (k : Int) (h : iHas k 8 = true) : iHas k 4 = true := by
  unfold iHas at h ⊢
  simp only [Bool.and_eq_true, decide_eq_true_eq] at h
  obtain ⟨⟨h0, h1⟩, h2⟩ := h
  have : k = 0 ∨ k = 1 ∨ k = 2 ∨ k = 3 ∨ k = 4 ∨ k = 5 ∨ k = 6 ∨ k = 7 ∨ k = 8 ∨ k = 9 := by omega
  rcases this with rfl | rfl | rfl | rfl | rfl | rfl | rfl | rfl | rfl | rfl <;> revert h2 <;> decide
/-- A number of Go's int. -/
def I64 (n : Int) : Prop := -9223372036854775808 ≤ n ∧ n < 9223372036854775808
theorem opN_range (o : Opn) (hw : I64 o.f3) (h : opN o = true) : -2147483647 ≤ o.f3 ∧ o.f3 ≤ 2147483647 := by
  unfold opN at h
  simp only [Bool.or_eq_true, Bool.and_eq_true, qty_iff] at h
  unfold I64 at hw
  rcases h with h | ⟨_, h⟩
  · omega
  · rw [wrap64] at h
    omega
def opR (o : Opn) : List Int := if opOk o then opB o else []
/-- A line in its box, while the calls go on. -/
abbrev LnS (w0 : World) (s : ByteArray) (n : Int) (W : World) : Prop := W.cell? ⟨w0.heap.size, 0, none⟩ = some (.string s) ∧ W.cell? ⟨w0.heap.size, 1, none⟩ = some (.int .i64 n) ∧ Aside0 (Below w0.heap.size w0 W)
theorem LnS.next {w0 W W' : World} {s : ByteArray} {n : Int} (h : LnS w0 s n W) (hb : Below W.heap.size W W') : LnS w0 s n W' := by
  obtain ⟨h0, h1, h2⟩ := h
  have hlt : w0.heap.size < W.heap.size := cell_blk h0
  exact ⟨(hb.cell (p := ⟨w0.heap.size, 0, none⟩) hlt).trans h0, (hb.cell (p := ⟨w0.heap.size, 1, none⟩) hlt).trans h1, ⟨h2.out.trans (hb.mono (by omega))⟩⟩
theorem LnS.next' {w0 W W' : World} {s : ByteArray} {n : Int} (hb : Below W.heap.size W W') (h : LnS w0 s n W) : LnS w0 s n W' := h.next hb
theorem LnS.drew {w0 W : World} {s : ByteArray} {n : Int} (h : LnS w0 s n W) : LnS w0 s n W.drew := h.next (Below.refl _ _ |>.drew)
theorem LnS.made (w : World) (s : ByteArray) (n : Int) (t : TypeId) : LnS w s n (w.alloc (.cells #[.string s, .int .i64 n] t)) := ⟨by simp, by simp, ⟨below_alloc (Below.refl _ _) _⟩⟩
theorem opB_rows (o : Opn) (r1 r2 r3 : List Int) (h1 : r1 = [o.f0 % 256] ++ (if iHas o.f0 1 then vEnc o.f1.size ++ sB o.f1 else [])) (h2 : r2 = r1 ++ (if iHas o.f0 2 then vEnc o.f2.toNat else []))
    (h3 : r3 = r2 ++ (if iHas o.f0 8 then vEnc (zig o.f3) else if iHas o.f0 4 then vEnc o.f3.toNat else [])) : opB o = r3 ++ (if iHas o.f0 16 then vEnc o.f4.length ++ o.f4.flatMap lineB else []) := by
  unfold opB
  rw [h3, h2, h1]
set_option maxRecDepth 20000 in
set_option maxHeartbeats 4000000 in
theorem item_Bytes (w : World) (A : Option Addr) (c : Nat) (o : Opn) (hG : GItem w) (hA : kLine.C w A o.f4.length o.f4) (hc : o.f4.length ≤ c) (hw : I64 o.f3) :
    Calls Tryd.prog 75 #[.agg #[.int .i64 o.f0, .string o.f1, .int .i64 o.f2, .int .i64 o.f3, .slice A o.f4.length c]] w fun en w' => ∃ v, en = .returned (.tuple #[v, .int .i64 (opE o)]) ∧ Kd.R (Kd.int .u8) 5 w' w.heap.size (fun _ => True) v (opR o) ∧ Below w.heap.size w w' := by
  have HG := Aside0.mk hG
  have HA := Aside0.mk hA
  have HC := Aside0.mk hc
  have HW64 := Aside0.mk hw
  clear hG hA hc hw
  have HQ := Aside0.mk (OpS.made w o.f0 o.f1 o.f2 o.f3 (.slice A o.f4.length c) 36)
  have HCK := fun W (h : OpS w w.heap.size o.f0 o.f1 o.f2 o.f3 (.slice A o.f4.length c) W) => item_Check W A c o (HG.out.keep h.low HG.out.lt) (Kd.C_below HA.out h.low) HC.out
  go_enter Tryd.func75, Tryd.ntmps75
  go_wp2_with fail
  refine (HCK _ HQ.out).mono ?_
  rintro en w1 ⟨rfl, hb⟩
  have hS := HQ.out.next hb
  have HB := Aside0.mk hS.low
  clear hb
  have hE : opE o = if opOk o then 0 else 2 := rfl
  have hR : opR o = if opOk o then opB o else [] := rfl
  cases hok : opOk o
  · rw [hok] at hE hR
    simp only [Bool.false_eq_true, if_false] at hE hR
    have HE := Aside0.mk hE
    rw [hE]
    clear hS HCK
    have HR := Aside0.mk hR
    clear hR hE
    go_wp2_with fail
    go_ret2
    exact ⟨.slice none 0 0, by rw [HE.out]; rfl, by rw [HR.out]; exact Kd.R_nil _ _ _ _ _, HB.out⟩
  · rw [hok] at hE hR
    simp only [if_true] at hE hR
    rw [hE]
    have HR := Aside0.mk hR
    have HE0 := Aside0.mk hE
    clear hR hE
    obtain ⟨p0, p1, p2, p3, p4⟩ := opOk_parts o hok
    have hO : Kd.R (Kd.int .u8) 5 (w1.alloc (.cells #[.int .u8 (o.f0 % 256)] 5)) w.heap.size (fun _ => True) (.slice (some ⟨w1.heap.size, 0, none⟩) 1 1) [o.f0 % 256] := one_lit _ _ _ _ HB.out.size
    have HO := Aside0.mk hO
    have hS2 := hS.next (below_alloc (Below.refl _ w1) (.cells #[.int .u8 (o.f0 % 256)] 5))
    have HS := Aside0.mk hS2
    clear hO
    go_upto_if 19 with (first | (go_at_call 90; refine (item_has _ o.f0 1 (HG.out.keep HS.out.low HG.out.lt)).mono ?_; rintro e w' ⟨rfl, rfl⟩))
    go_cut [5] (fun s5 wx => ∃ row, Aside0 (row = [o.f0 % 256] ++ (if iHas o.f0 1 then vEnc o.f1.size ++ sB o.f1 else [])) ∧ Aside0 (Kd.R (Kd.int .u8) 5 wx w.heap.size (fun _ => True) s5 row) ∧ OpS w w.heap.size o.f0 o.f1 o.f2 o.f3 (.slice A o.f4.length c) wx)
    case first =>
      cases h1 : iHas o.f0 1
      · go_wp2_with fail
        go_meet
        exact ⟨[o.f0 % 256], ⟨by simp [h1]⟩, HO, HS.out⟩
      · obtain ⟨A1, c1, e1, hc1, hr1⟩ := R_C HO.out
        cases e1
        have HT := Aside0.mk (item_text _ _ 1 [o.f0 % 256] o.f1 hr1 hc1 (by have := nameOk_size _ (may_on p1 h1); simp only [List.length_cons, List.length_nil]; omega))
        obtain ⟨hs0, hs1, hs2, hs3, hs4, _⟩ := hS
        go_wp2_with (first | (go_at_call 91; refine HT.out.mono ?_; rintro e w' ⟨v, rfl, hv, hb⟩))
        go_meet
        exact ⟨_, ⟨by rw [h1]; rfl⟩, ⟨Kd.R_lower hv HS.out.low.size⟩, HS.out.next hb⟩
    case rest =>
      clear hS hS2 HS HO HB
      obtain ⟨row1, HR1, HO1, hS1⟩ := hcut
      have HS1 := Aside0.mk hS1
      obtain ⟨hs0, hs1, hs2, hs3, hs4, _⟩ := hS1
      go_upto_if 26 with (first | (go_at_call 90; refine (item_has _ o.f0 2 (HG.out.keep HS1.out.low HG.out.lt)).mono ?_; rintro e w' ⟨rfl, rfl⟩))
      have hlen1 : row1.length ≤ 19 := by
        rw [HR1.out]
        cases h1 : iHas o.f0 1
        · simp
        · have e1 := nameOk_size _ (may_on p1 h1)
          have e2 := vEnc_ten o.f1.size (by omega)
          simp only [if_true, List.length_append, List.length_cons, List.length_nil, sB_len]
          omega
      have HL1 := Aside0.mk hlen1
      clear hlen1
      go_cut [5] (fun s5 wx => ∃ row, Aside0 (row = row1 ++ (if iHas o.f0 2 then vEnc o.f2.toNat else [])) ∧ Aside0 (row.length ≤ 29) ∧ Aside0 (Kd.R (Kd.int .u8) 5 wx w.heap.size (fun _ => True) s5 row) ∧ OpS w w.heap.size o.f0 o.f1 o.f2 o.f3 (.slice A o.f4.length c) wx)
      case first =>
        cases h2 : iHas o.f0 2
        · go_wp2_with fail
          go_meet
          exact ⟨row1, ⟨by simp [h2]⟩, ⟨by have := HL1.out; omega⟩, HO1, HS1.out⟩
        · have hq := (qty_iff _).1 (may_on p2 h2)
          obtain ⟨A1, c1, e1, hc1, hr1⟩ := R_C HO1.out
          cases e1
          have HT := item_number _ _ c1 row1 o.f2.toNat hr1 hc1 (by have := HL1.out; omega) (by omega)
          rw [Int.toNat_of_nonneg (by omega)] at HT
          have HT2 := Aside0.mk HT
          clear HT hq
          go_wp2_with (first | (go_at_call 92; refine HT2.out.mono ?_; rintro e w' ⟨v, rfl, hv, hb⟩))
          go_meet
          exact ⟨_, ⟨by rw [h2]; rfl⟩, ⟨by have h := HL1.out; have h3 := vEnc_ten o.f2.toNat (by have := (qty_iff _).1 (may_on p2 h2); omega); simp only [if_true, List.length_append]; omega⟩, ⟨Kd.R_lower hv HS1.out.low.size⟩, HS1.out.next hb⟩
      case rest =>
        clear hs0 hs1 hs2 hs3 hs4 HS1 HO1
        obtain ⟨row2, HR2, HL2, HO2, hS2⟩ := hcut
        have HS2 := Aside0.mk hS2
        obtain ⟨hs0, hs1, hs2, hs3, hs4, _⟩ := hS2
        go_upto_block 0 with fail
        go_cut [5] (fun s5 wx => ∃ row, Aside0 (row = row2 ++ (if iHas o.f0 8 then vEnc (zig o.f3) else if iHas o.f0 4 then vEnc o.f3.toNat else [])) ∧ Aside0 (row.length ≤ 39) ∧ Aside0 (Kd.R (Kd.int .u8) 5 wx w.heap.size (fun _ => True) s5 row) ∧ OpS w w.heap.size o.f0 o.f1 o.f2 o.f3 (.slice A o.f4.length c) wx)
        case first =>
          cases h8 : iHas o.f0 8
          · cases h4 : iHas o.f0 4
            · go_wp2_with (first | (go_at_call_of 90 (Value.int IntKind.i64 8); refine (item_has _ o.f0 8 (HG.out.keep HS2.out.low HG.out.lt)).mono ?_; rintro e w' ⟨rfl, rfl⟩) | (go_at_call_of 90 (Value.int IntKind.i64 4); refine (item_has _ o.f0 4 (HG.out.keep HS2.out.low HG.out.lt)).mono ?_; rintro e w' ⟨rfl, rfl⟩))
              go_meet
              exact ⟨row2, ⟨by simp [h8, h4]⟩, ⟨by have := HL2.out; omega⟩, HO2, HS2.out⟩
            · have hq : 1 ≤ o.f3 ∧ o.f3 ≤ 2147483647 := by
                have h := may_on p3 h4
                unfold opN at h
                rw [h8] at h
                exact (qty_iff _).1 (by simpa using h)
              have HQ3 := Aside0.mk hq
              obtain ⟨A1, c1, e1, hc1, hr1⟩ := R_C HO2.out
              cases e1
              have HT := item_number _ _ c1 row2 o.f3.toNat hr1 hc1 (by have := HL2.out; omega) (by omega)
              rw [Int.toNat_of_nonneg (by omega)] at HT
              have HT2 := Aside0.mk HT
              clear HT hq
              go_wp2_with (first | (go_at_call_of 90 (Value.int IntKind.i64 8); refine (item_has _ o.f0 8 (HG.out.keep HS2.out.low HG.out.lt)).mono ?_; rintro e w' ⟨rfl, rfl⟩) | (go_at_call_of 90 (Value.int IntKind.i64 4); refine (item_has _ o.f0 4 (HG.out.keep HS2.out.low HG.out.lt)).mono ?_; rintro e w' ⟨rfl, rfl⟩) | (go_at_call 92; refine HT2.out.mono ?_; rintro e w' ⟨v, rfl, hv, hb⟩))
              go_meet
              exact ⟨_, ⟨by rw [h8, h4]; rfl⟩, ⟨by have h := HL2.out; have h3 := vEnc_ten o.f3.toNat (by have := HQ3.out; omega); simp only [Bool.false_eq_true, if_true, if_false, List.length_append]; omega⟩, ⟨Kd.R_lower hv HS2.out.low.size⟩, HS2.out.next hb⟩
          · have HQ3 := Aside0.mk (opN_range o HW64.out (may_on p3 (has8_4 _ h8)))
            obtain ⟨A1, c1, e1, hc1, hr1⟩ := R_C HO2.out
            cases e1
            have HT := bits_Int _ _ c1 row2 o.f3 hr1 hc1 (by have := HL2.out; omega) (by have := HQ3.out; omega) (by have := HQ3.out; omega)
            have HT2 := Aside0.mk HT
            clear HT
            go_wp2_with (first | (go_at_call_of 90 (Value.int IntKind.i64 8); refine (item_has _ o.f0 8 (HG.out.keep HS2.out.low HG.out.lt)).mono ?_; rintro e w' ⟨rfl, rfl⟩) | (go_at_call 93; refine HT2.out.mono ?_; rintro e w' ⟨v, rfl, hv, hb⟩))
            go_meet
            exact ⟨_, ⟨by rw [h8]; rfl⟩, ⟨by have h := HL2.out; have h3 := vEnc_ten (zig o.f3) (zig_lt _ (by have := HQ3.out; omega) (by have := HQ3.out; omega)); simp only [if_true, List.length_append]; omega⟩, ⟨Kd.R_lower hv HS2.out.low.size⟩, HS2.out.next hb⟩
        case rest =>
          clear hs0 hs1 hs2 hs3 hs4 HS2 HO2
          obtain ⟨row3, HR3, HL3, HO3, hS3⟩ := hcut
          have HS3 := Aside0.mk hS3
          obtain ⟨hs0, hs1, hs2, hs3, hs4, _⟩ := hS3
          have HRo := Aside0.mk (HR.out.trans (opB_rows o row1 row2 row3 HR1.out HR2.out HR3.out))
          clear HR HR1 HR2 HR3
          cases h16 : iHas o.f0 16
          · go_wp2_with (first | (go_at_call 90; refine (item_has _ o.f0 16 (HG.out.keep HS3.out.low HG.out.lt)).mono ?_; rintro e w' ⟨rfl, rfl⟩))
            go_ret2
            exact ⟨_, by rw [HE0.out]; rfl, by rw [HRo.out, h16]; simpa using HO3.out, HS3.out.low⟩
          · obtain ⟨lf0, lf1, lf2, _⟩ := lines_facts o.f4 (may_on p4 h16)
            have HLF := Aside0.mk lf0
            have HLF2 := Aside0.mk lf2
            obtain ⟨A1, c1, e1, hc1, hr1⟩ := R_C HO3.out
            cases e1
            have HT2 := Aside0.mk (item_number _ _ c1 row3 o.f4.length hr1 hc1 (by have := HL3.out; omega) (by omega))
            rw [h16, if_pos rfl] at HRo
            clear lf0 lf1 lf2 hc1 hr1 HO3 p0 p1 p2 p3 p4
            go_wp2_with (first | (go_at_call 90; refine (item_has _ o.f0 16 (HG.out.keep HS3.out.low HG.out.lt)).mono ?_; rintro e w' ⟨rfl, rfl⟩) | (go_at_call 92; refine HT2.out.mono ?_; rintro e w' ⟨v, rfl, hv, hb⟩; have hS4 := Aside0.mk (HS3.out.next hb); obtain ⟨hs0, hs1, hs2, hs3, hs4, _⟩ := hS4.out))
            have HB4 := Aside0.mk hS4.out.low
            have HO4 := Aside0.mk (Kd.R_lower hv HS3.out.low.size)
            clear hS4 hv hb hs0 hs1 hs2 hs3 hs4 HS3
            have HLM : Aside0 (o.f4.length ≤ maxLen) := ⟨HA.out.2.1⟩
            go_loopw [5, 58] (fun s5 v wr => ∃ (k : Nat) (row : List Int), k ≤ o.f4.length ∧ v = .int .i64 k ∧ Aside0 (row = row3 ++ vEnc o.f4.length ++ (o.f4.take k).flatMap lineB) ∧ Aside0 (row.length ≤ 49 + 28 * k) ∧ Aside0 (Kd.R (Kd.int .u8) 5 wr w.heap.size (fun _ => True) s5 row) ∧ Aside0 (Below w.heap.size w wr)) (fun _ v _ => o.f4.length - (intOf v).toNat)
            case atStart => exact ⟨0, _, by omega, rfl, ⟨by simp⟩, ⟨by have h := HL3.out; have h3 := vEnc_ten o.f4.length (by have := HLF2.out; omega); rw [List.length_append]; omega⟩, HO4, HB4⟩
            case round =>
              obtain ⟨k, row, hk, rfl, HRW, HRL, HO5, HB5⟩ := hrel
              by_cases hlt : k < o.f4.length
              · have hb : decide ((k : Int) < (o.f4.length : Int)) = true := by simp; omega
                obtain ⟨ad, e1, hc0, hc1⟩ := at_T118 HA.out (k : Int) (by omega) (by omega)
                cases e1
                rw [rd_T_at o.f4 k hlt] at hc0 hc1
                replace hc0 := (HB5.out.cell (cell_blk hc0)).trans hc0
                replace hc1 := (HB5.out.cell (cell_blk hc1)).trans hc1
                rw [Int.toNat_natCast] at hc0 hc1
                have hx := List.all_eq_true.1 HLF.out _ (List.getElem_mem hlt)
                have HT := Aside0.mk (take_snoc o.f4 k hlt)
                generalize o.f4[k] = x at *
                have HX := Aside0.mk hx
                clear hx
                obtain ⟨A1, c1, e1, hc1', hr1⟩ := R_C HO5.out
                cases e1
                have HR1 := Aside0.mk hr1
                have HC1 := Aside0.mk hc1'
                clear hr1 hc1'
                have hlx : lineOk x = (nameOk x.f0 && qty x.f1) := rfl
                obtain ⟨hx1, hx2⟩ : nameOk x.f0 = true ∧ qty x.f1 = true := by have := HX.out; rw [hlx] at this; simpa using this
                have hx3 := nameOk_size _ hx1
                have hx4 := (qty_iff _).1 hx2
                have HLX := Aside0.mk (lineB_len x HX.out)
                obtain ⟨row2, hrow2⟩ : ∃ r, r = row ++ (vEnc x.f0.size ++ sB x.f0) := ⟨_, rfl⟩
                have hl2 : row2.length ≤ 49 + 28 * 4 + 18 := by
                  have h1 := HRL.out
                  have h2 := HLF2.out
                  have h3 := vEnc_ten x.f0.size (by omega)
                  rw [hrow2, List.length_append, List.length_append, sB_len]
                  omega
                have HTX : ∀ W' : World, LnS wr x.f0 x.f1 W' → Calls Tryd.prog 91 #[.slice A1 row.length c1, .string x.f0] W' fun en w' => ∃ v, en = .returned v ∧ Kd.R (Kd.int .u8) 5 w' W'.heap.size (fun _ => True) v row2 ∧ Below W'.heap.size W' w' := fun W' h => by
                  rw [hrow2]
                  exact item_text W' A1 c1 row x.f0 (Kd.C_below HR1.out h.2.2.out) HC1.out (by have h1 := HRL.out; have h2 := HLF2.out; omega)
                have HNM : ∀ (W' : World) (A2 : Option Addr) (c2 : Nat), Kd.C (Kd.int .u8) W' A2 row2.length row2 → row2.length ≤ c2 → Calls Tryd.prog 92 #[.slice A2 row2.length c2, .int .i64 x.f1] W' fun en w' => ∃ v, en = .returned v ∧ Kd.R (Kd.int .u8) 5 w' W'.heap.size (fun _ => True) v (row2 ++ vEnc x.f1.toNat) ∧ Below W'.heap.size W' w' := fun W' A2 c2 h1 h2 => by
                  have := item_number W' A2 c2 row2 x.f1.toNat h1 h2 (by omega) (by omega)
                  rwa [Int.toNat_of_nonneg (by omega)] at this
                have hln : LnS wr x.f0 x.f1 (wr.alloc (.cells #[.string x.f0, .int .i64 x.f1] 118)) := LnS.made _ _ _ _
                have HROW2 := Aside0.mk hrow2
                have HL2' := Aside0.mk hl2
                clear hx1 hx2 hx3 hx4 hl2 hrow2 hlx
                obtain ⟨W, hW⟩ : ∃ W, W = wr.alloc (.cells #[.string x.f0, .int .i64 x.f1] 118) := ⟨_, rfl⟩
                go_upto_region 18 with fail
                rw [← hW] at hln ⊢
                clear hW hc0 hc1
                go_region_held3 (fun w' => LnS wr x.f0 x.f1 w') (first | assumption | (apply LnS.drew; assumption) | (apply LnS.next'; assumption; assumption))
                  (first
                    | (go_at_call 91; refine (HTX _ ?_).mono ?_; assumption; rintro e wt ⟨v, rfl, hv, hb⟩; obtain ⟨A2, c2, e2, hc2, hr2⟩ := R_C hv; cases e2)
                    | (go_at_call 92; refine (HNM _ _ _ hr2 hc2).mono ?_; rintro e w' ⟨v, rfl, hv2, hb2⟩))
                have hS6 : LnS wr x.f0 x.f1 w' := by assumption
                have HB6 := Aside0.mk (HB5.out.trans (hS6.2.2.out.mono HB5.out.size))
                have HO6 := Aside0.mk (Kd.R_lower hv2 (show w.heap.size ≤ wt.heap.size from Nat.le_trans HB5.out.size (Nat.le_trans hln.2.2.out.size hb.size)))
                have hwk := wrap_next o.f4.length k hlt HLM.out
                clear hS6 hv hv2 hb hb2 hr2 hc2 HTX HNM hln
                go_wp2_with fail
                go_roundw
                case rel =>
                  have e : row2 ++ vEnc x.f1.toNat = row3 ++ vEnc o.f4.length ++ (o.f4.take (k + 1)).flatMap lineB := by
                    rw [HROW2.out, HRW.out, HT.out, List.flatMap_append]
                    simp [lineB, List.append_assoc]
                  refine ⟨k + 1, _, by omega, by rw [hwk], ⟨e⟩, ⟨?_⟩, HO6, HB6⟩
                  have h1 := HRL.out
                  have h2 := HLX.out
                  unfold lineB at h2
                  rw [HROW2.out]
                  simp only [List.length_append] at h2 ⊢
                  omega
                case measure => exact meas_step o.f4.length k hlt hwk
              · have hb : decide ((k : Int) < (o.f4.length : Int)) = false := by simp; omega
                obtain rfl : k = o.f4.length := by omega
                go_wp2_with fail
                go_ret2
                refine ⟨_, by rw [HE0.out]; rfl, ?_, HB5.out⟩
                have h := HO5.out
                rw [HRW.out, List.take_length] at h
                rw [HRo.out, ← List.append_assoc]
                exact h
end Go.Proofs.YtmeblifbkhpdnaaDoor.K
/- A reader beside a box of an op; what an op's bytes say, step by step. -/
namespace Go.Proofs.YtmeblifbkhpdnaaDoor.K
set_option linter.unusedVariables false
set_option linter.unusedSimpArgs false
open Go.RowKit Go.Proofs.YtmeblifbkhpdnaaDoorW.PrintWords Go.Proofs.YtmeblifbkhpdnaaDoorW.PrintLast Go.Proofs.YtmeblifbkhpdnaaDoorW.PrintMore
/-- Another block than the reader's, that holds no bytes, has been written. -/
theorem Rd.keep {W W' : World} {g b : Nat} {l : List Int} {e : Int} {cs : Array Value} {t : TypeId} (h : Rd W g l e) (hgr : W.grownBy W' (some b)) (hne : b ≠ g) (hb : W.heap[b]? = some (.cells cs t (0, 0))) (ht : 5 ≠ t) : Rd W' g l e := by
  obtain ⟨A, c, h2, hl, hc, hbt, hu⟩ := h
  refine ⟨A, c, blk_grown h2 hgr (fun h => hne (Option.some.inj h).symm), hl, bytes_grown hc hgr (fun ad ha _ => ?_), hbt, fun ad ha => ?_⟩
  · obtain ⟨cl, h⟩ := hu ad ha
    exact blk_ne h hb ht
  · obtain ⟨cl, h⟩ := hu ad ha
    exact ⟨cl, blk_grown h hgr (fun q => blk_ne h hb ht (Option.some.inj q))⟩
theorem Rd.below {W W' : World} {g : Nat} {l : List Int} {e : Int} (h : Rd W g l e) (hb : Below W.heap.size W W') : Rd W' g l e := by
  obtain ⟨A, c, h2, hl, hc, hbt, hu⟩ := h
  exact ⟨A, c, blk_below h2 hb, hl, Kd.C_below hc hb, hbt, fun ad ha => by obtain ⟨cl, h⟩ := hu ad ha; exact ⟨cl, blk_below h hb⟩⟩
/-! ### an op's box beside a reader -/
def PSt (w0 : World) (b g : Nat) (k : Int) (s : ByteArray) (r n : Int) (v : Value) (x : List Int × Int) (W : World) : Prop :=
  W.heap[b]? = some (.cells #[.int .i64 k, .string s, .int .i64 r, .int .i64 n, v] 36 (0, 0)) ∧ Rd W g x.1 x.2 ∧ b ≠ g ∧ w0.heap.size ≤ b ∧ w0.heap.size ≤ g ∧ Below w0.heap.size w0 W ∧ x.1.length < 140737488355328
section
variable {w0 W W' : World} {b g : Nat} {k : Int} {s : ByteArray} {r n : Int} {v : Value} {x y : List Int × Int}
theorem PSt.box (h : PSt w0 b g k s r n v x W) : W.heap[b]? = some (.cells #[.int .i64 k, .string s, .int .i64 r, .int .i64 n, v] 36 (0, 0)) := h.1
theorem PSt.rd (h : PSt w0 b g k s r n v x W) : Rd W g x.1 x.2 := h.2.1
theorem PSt.ne (h : PSt w0 b g k s r n v x W) : b ≠ g := h.2.2.1
theorem PSt.lb (h : PSt w0 b g k s r n v x W) : w0.heap.size ≤ b := h.2.2.2.1
theorem PSt.lg (h : PSt w0 b g k s r n v x W) : w0.heap.size ≤ g := h.2.2.2.2.1
theorem PSt.low (h : PSt w0 b g k s r n v x W) : Below w0.heap.size w0 W := h.2.2.2.2.2.1
theorem PSt.len (h : PSt w0 b g k s r n v x W) : x.1.length < 140737488355328 := h.2.2.2.2.2.2
theorem PSt.cells (h : PSt w0 b g k s r n v x W) : W.cell? ⟨b, 0, none⟩ = some (.int .i64 k) ∧ W.cell? ⟨b, 1, none⟩ = some (.string s) ∧ W.cell? ⟨b, 2, none⟩ = some (.int .i64 r) ∧ W.cell? ⟨b, 3, none⟩ = some (.int .i64 n) ∧ W.cell? ⟨b, 4, none⟩ = some v :=
  ⟨blk_cell h.box 0, blk_cell h.box 1, blk_cell h.box 2, blk_cell h.box 3, blk_cell h.box 4⟩
theorem PSt.frozen (h : PSt w0 b g k s r n v x W) (i : Nat) : W.frozen? ⟨b, i, none⟩ = false := blk_frozen h.box i
theorem below_grownG {w0 W W' : World} {g : Nat} (h : Below w0.heap.size w0 W) (hg : W.grownBy W' (some g)) (hl : w0.heap.size ≤ g) : Below w0.heap.size w0 W' :=
  h.grown hg h.size (by intro k hk; cases hk; exact hl)
/-- Behind a call that reads. -/
theorem PSt.call (h : PSt w0 b g k s r n v x W) {l : List Int} {e : Int} (hr : Rd W' g l e) (hy : l.length ≤ x.1.length) (hg : W.grownBy W' (some g)) : PSt w0 b g k s r n v (l, e) W' :=
  ⟨blk_grown h.box hg (fun q => h.ne (Option.some.inj q)), hr, h.ne, h.lb, h.lg, below_grownG h.low hg h.lg, Nat.lt_of_le_of_lt hy h.len⟩
theorem PSt.below (h : PSt w0 b g k s r n v x W) (hb : Below W.heap.size W W') : PSt w0 b g k s r n v x W' :=
  ⟨blk_below h.box hb, h.rd.below hb, h.ne, h.lb, h.lg, h.low.trans (hb.mono h.low.size), h.len⟩
theorem PSt.set (h : PSt w0 b g k s r n v x W) (i : Nat) (u : Value) {k' : Int} {s' : ByteArray} {r' n' : Int} (he : (#[.int .i64 k, .string s, .int .i64 r, .int .i64 n, v] : Array Value).setIfInBounds i u = #[.int .i64 k', .string s', .int .i64 r', .int .i64 n', v]) :
    PSt w0 b g k' s' r' n' v x (W.setCell ⟨b, i, none⟩ u) := by
  have hgr : W.grownBy (W.setCell ⟨b, i, none⟩ u) (some b) := grown_set (World.grownBy.refl W _)
  refine ⟨?_, h.rd.keep hgr h.ne h.box (by decide), h.ne, h.lb, h.lg, below_grownG h.low hgr h.lb, h.len⟩
  rw [← he]
  exact blk_set h.box i u
theorem PSt.set4 (h : PSt w0 b g k s r n v x W) (u : Value) : PSt w0 b g k s r n u x (W.setCell ⟨b, 4, none⟩ u) := by
  have hgr : W.grownBy (W.setCell ⟨b, 4, none⟩ u) (some b) := grown_set (World.grownBy.refl W _)
  exact ⟨blk_set h.box 4 u, h.rd.keep hgr h.ne h.box (by decide), h.ne, h.lb, h.lg, below_grownG h.low hgr h.lb, h.len⟩
/-- Another block has been written. -/
theorem PSt.other (h : PSt w0 b g k s r n v x W) {q : Nat} {cs : Array Value} {t : TypeId} (hb : W.heap[q]? = some (.cells cs t (0, 0))) (ht : 5 ≠ t) (hq : w0.heap.size ≤ q) (hqb : q ≠ b) (hqg : q ≠ g) (hgr : W.grownBy W' (some q)) : PSt w0 b g k s r n v x W' :=
  ⟨blk_grown h.box hgr (fun e => hqb (Option.some.inj e).symm), h.rd.keep hgr hqg hb ht, h.ne, h.lb, h.lg, below_grownG h.low hgr hq, h.len⟩
theorem grown_none {W W' : World} (h : W.grownBy W' none) : Below W.heap.size W W' := ⟨h.os, h.tape, h.output, h.size, fun i hi => h.block i hi (by simp)⟩
/-- A row of the call's own has been appended to. -/
theorem PSt.app (h : PSt w0 b g k s r n v x W) {α : Type} {d : Kd α} {e : Nat} {ok : Nat → Prop} {u : Value} {xs : List α} (hR : d.R e W w0.heap.size ok u xs) (hok : ∀ j, ok j → j ≠ b ∧ j ≠ g) (ht : 5 ≠ e) (hgr : W.grownBy W' u.ownBlock) : PSt w0 b g k s r n v x W' := by
  cases ho : u.ownBlock with
  | none =>
    rw [ho] at hgr
    exact h.below (grown_none hgr)
  | some q =>
    rw [ho] at hgr
    obtain ⟨cl, hc⟩ := Kd.R_typed hR q ho
    exact h.other hc ht (Kd.R_base hR q ho) (hok q (hR.1 q ho)).1 (hok q (hR.1 q ho)).2 hgr
theorem PSt.lt (h : PSt w0 b g k s r n v x W) : b < W.heap.size ∧ g < W.heap.size := ⟨blk_lt h.box, h.rd.lt⟩
theorem PSt.set0 (h : PSt w0 b g k s r n v x W) (z : Int) : PSt w0 b g z s r n v x (W.setCell ⟨b, 0, none⟩ (.int .i64 z)) := h.set 0 _ rfl
theorem PSt.set1 (h : PSt w0 b g k s r n v x W) (z : ByteArray) : PSt w0 b g k z r n v x (W.setCell ⟨b, 1, none⟩ (.string z)) := h.set 1 _ rfl
theorem PSt.set2 (h : PSt w0 b g k s r n v x W) (z : Int) : PSt w0 b g k s z n v x (W.setCell ⟨b, 2, none⟩ (.int .i64 z)) := h.set 2 _ rfl
theorem PSt.set3 (h : PSt w0 b g k s r n v x W) (z : Int) : PSt w0 b g k s r z v x (W.setCell ⟨b, 3, none⟩ (.int .i64 z)) := h.set 3 _ rfl
end
/-! ### what an op's bytes say -/
theorem rText_range (l : List Int) (e : Int) (hb : CrcMath.Bytes l) : (rText l e).2.1.length ≤ l.length ∧ CrcMath.Bytes (rText l e).2.1 := by
  have h := rVar_range l e hb
  unfold rText
  split
  · exact ⟨h.2.2.2, h.2.2.1⟩
  · split
    · exact ⟨by simp, bytes_nil⟩
    · exact ⟨by rw [List.length_drop]; have := h.2.2.2; omega, fun z hz => h.2.2.1 z (List.mem_of_mem_drop hz)⟩
theorem rNum_range (n : Nat) (l : List Int) (e : Int) (hb : CrcMath.Bytes l) : (rNum n l e).2.1.length ≤ l.length ∧ CrcMath.Bytes (rNum n l e).2.1 := by
  unfold rNum
  split
  · exact ⟨Nat.le_refl _, hb⟩
  · split
    · exact ⟨by simp, bytes_nil⟩
    · exact ⟨by rw [List.length_drop]; omega, fun z hz => hb z (List.mem_of_mem_drop hz)⟩
theorem rNum1_range (l : List Int) (e : Int) (hb : CrcMath.Bytes l) : 0 ≤ (rNum 1 l e).1 ∧ (rNum 1 l e).1 < 256 := by
  unfold rNum
  split
  · exact ⟨Int.le_refl _, (by decide : (0 : Int) < 256)⟩
  · split
    · exact ⟨Int.le_refl _, (by decide : (0 : Int) < 256)⟩
    · have h := be_range l hb 1 (by omega)
      exact ⟨h.1, by simpa using h.2⟩
def pSku (k : Int) (x : List Int × Int) : ByteArray × List Int × Int := if iHas k 1 then (strOfNums (rText x.1 x.2).1, (rText x.1 x.2).2) else (⟨#[]⟩, x)
def pOrd (k : Int) (x : List Int × Int) : Int × List Int × Int := if iHas k 2 then (small (rVar x.1 x.2).1, (rVar x.1 x.2).2) else (0, x)
def pNum (k : Int) (x : List Int × Int) : Int × List Int × Int := if iHas k 8 then (zag (rVar x.1 x.2).1, (rVar x.1 x.2).2) else if iHas k 4 then (small (rVar x.1 x.2).1, (rVar x.1 x.2).2) else (0, x)
def pLine (x : List Int × Int) : Line × List Int × Int := (⟨strOfNums (rText x.1 x.2).1, small (rVar (rText x.1 x.2).2.1 (rText x.1 x.2).2.2).1⟩, (rVar (rText x.1 x.2).2.1 (rText x.1 x.2).2.2).2)
def pIter : Nat → List Int × Int → List Line × List Int × Int
  | 0, x => ([], x)
  | m + 1, x => ((pIter m x).1 ++ [(pLine (pIter m x).2).1], (pLine (pIter m x).2).2)
def pLns (k : Int) (x : List Int × Int) : List Line × List Int × Int := if iHas k 16 then pIter (min (rVar x.1 x.2).1.toNat 5) (rVar x.1 x.2).2 else ([], x)
/-- The steps of an op's bytes, one behind the other. -/
def pOp0 (l : List Int) : Opn × List Int × Int :=
  let a := rNum 1 l 0
  let b := pSku a.1 a.2
  let c := pOrd a.1 b.2
  let d := pNum a.1 c.2
  let e := pLns a.1 d.2
  (⟨a.1, b.1, c.1, d.1, e.1⟩, e.2)
def zOp : Opn := ⟨0, ⟨#[]⟩, 0, 0, []⟩
/-- What Parse tells of bytes. -/
def pOp (l : List Int) : Opn × Int :=
  if (pOp0 l).2.2 ≠ 0 then (zOp, (pOp0 l).2.2) else if rEnd (pOp0 l).2.1 (pOp0 l).2.2 ≠ 0 then (zOp, 4) else if opE (pOp0 l).1 ≠ 0 then (zOp, 4) else ((pOp0 l).1, 0)
end Go.Proofs.YtmeblifbkhpdnaaDoor.K
/- Contract of item.Parse. -/
namespace Go.Proofs.YtmeblifbkhpdnaaDoor.K
set_option linter.unusedVariables false
set_option linter.unusedSimpArgs false
open Go.RowKit Go.Proofs.YtmeblifbkhpdnaaDoorW.PrintWords Go.Proofs.YtmeblifbkhpdnaaDoorW.PrintLast Go.Proofs.YtmeblifbkhpdnaaDoorW.PrintMore
theorem PSt.made {w w1 : World} {g : Nat} {l : List Int} (hr : Rd w1 g l 0) (hg : w.heap.size + 1 ≤ g) (hl : l.length < 140737488355328)
    (hb : Below (w.heap.size + 1) (w.alloc (.cells #[.int .i64 0, .string ⟨#[]⟩, .int .i64 0, .int .i64 0, .slice none 0 0] 36)) w1) : PSt w w.heap.size g 0 ⟨#[]⟩ 0 0 (.slice none 0 0) (l, 0) w1 :=
  ⟨(hb.block _ (by omega)).trans (blk_new w _), hr, by omega, Nat.le_refl _, by omega, (below_alloc (Below.refl _ _) _).trans (hb.mono (by omega)), hl⟩
theorem infoLine : (Tryd.prog.info? 118).map (fun i => (i.zero, i.size, i.bytes)) = some (some (.agg #[(.string ⟨#[]⟩), (.int .i64 0)]), 2, 24) := by kernel_rfl
theorem pIter_snoc {m : Nat} {x5 x x' : List Int × Int} {ls : List Line} {p : Line} (h : pIter m x5 = (ls, x)) (hp : pLine x = (p, x')) : pIter (m + 1) x5 = (ls ++ [p], x') := by
  rw [pIter, h, hp]
theorem ret_op {w0 W : World} {b g : Nat} {k : Int} {s : ByteArray} {r n : Int} {v : Value} {x : List Int × Int} {e : Int} {tmps : Array Value} (h : PSt w0 b g k s r n v x W) (h2 : tmps.getD 2 undef = .pointer (some ⟨b, 0, none⟩)) (h3 : tmps.getD 3 undef = .int .i64 e) :
    (results Tryd.f88 tmps).run Tryd.prog W = .ok (.tuple #[.agg #[.int .i64 k, .string s, .int .i64 r, .int .i64 n, v], .int .i64 e]) W := by
  obtain ⟨q0, q1, q2, q3, q4⟩ := h.cells
  rw [results_cell_tmp (p := 2) (u := 3) (ty := 36) rfl, h2, h3]
  simp [go_sem, q0, q1, q2, q3, q4]
set_option maxRecDepth 20000 in
set_option maxHeartbeats 4000000 in
theorem item_Parse (w : World) (A : Option Addr) (c : Nat) (l : List Int) (hG : GItem w) (hC : Kd.C (Kd.int .u8) w A l.length l) (hc : l.length ≤ c) (hb : CrcMath.Bytes l) (hl : l.length < 140737488355328) :
    Calls Tryd.prog 88 #[.slice A l.length c] w fun en w' => ∃ v, en = .returned (.tuple #[.agg #[.int .i64 (pOp l).1.f0, .string (pOp l).1.f1, .int .i64 (pOp l).1.f2, .int .i64 (pOp l).1.f3, v], .int .i64 (pOp l).2]) ∧ Kd.R kLine 118 w' w.heap.size (fun _ => True) v (pOp l).1.f4 ∧ Below w.heap.size w w' := by
  have HG := Aside0.mk hG
  have HC := Aside0.mk hC
  have HCC := Aside0.mk hc
  have HBY := Aside0.mk hb
  have HL := Aside0.mk hl
  clear hG hC hc hb hl
  have HREAD := bits_Read (w.alloc (.cells #[.int .i64 0, .string ⟨#[]⟩, .int .i64 0, .int .i64 0, .slice none 0 0] 36)) A c l (Kd.C_alloc HC.out _) HCC.out HBY.out HL.out
  have hQ := rNum1_range l 0 HBY.out
  have hQL := (rNum_range 1 l 0 HBY.out).1
  generalize hq : rNum 1 l 0 = q at hQ hQL
  obtain ⟨k, x1⟩ := q
  have HQ := Aside0.mk hq
  have HQL := Aside0.mk hQL
  have hkw : wrap64 k = k := wrap64_in (by omega) (by omega)
  clear hq hQL hQ
  go_enter Tryd.func88, Tryd.ntmps88
  go_upto_if 14 with (first | (go_at_call 24; refine HREAD.mono ?_; rintro e w1 ⟨g, rfl, hge, hr, hbb⟩; have HP := Aside0.mk (PSt.made hr (by simpa using hge) HL.out (by simpa using hbb)); clear hr hbb hge; have hne := HP.out.ne; have hf0 := HP.out.frozen 0) | (go_at_call 25; refine (rd_Num 1 (.inl rfl) _ g l 0 HP.out.rd 8 rfl).mono ?_; rw [HQ.out]; rintro e w2 ⟨rfl, hr, hg⟩; have HP2 := Aside0.mk (HP.out.call hr HQL.out hg); have HP3 := Aside0.mk (HP2.out.set0 k); clear hr hg hf0; have hf0 := HP2.out.frozen 0; have hc0 := HP2.out.cells.1) | (go_at_call 90; refine (item_has _ k 1 (HG.out.keep HP3.out.low HG.out.lt)).mono ?_; rintro e w' ⟨rfl, rfl⟩))
  go_cut [] (fun wx => ∃ (s : ByteArray) (x : List Int × Int), Aside0 (pSku k x1 = (s, x)) ∧ Aside0 (PSt w w.heap.size g k s 0 0 (.slice none 0 0) x wx))
  case first =>
    cases h1 : iHas k 1
    · go_wp2_with fail
      go_meet
      exact ⟨_, _, ⟨by unfold pSku; rw [h1]; rfl⟩, HP3⟩
    · have HT := Aside0.mk (rd_Text _ g _ _ HP3.out.rd HP3.out.len)
      have HTL := Aside0.mk (rText_range _ x1.2 HP3.out.rd.bytes).1
      generalize hq : rText x1.1 x1.2 = q at HT HTL
      obtain ⟨t, x2⟩ := q
      have HQ2 := Aside0.mk hq
      clear hq hf0
      go_wp2_with (first | (go_at_call 62; refine HT.out.mono ?_; rintro e w' ⟨v, rfl, hv, hr, hg⟩; obtain ⟨A1, c1, e1, _, hr1⟩ := R_C hv; cases e1; have hcs := Kd.C_string (c := c1) Tryd.underlying22 Tryd.underlying5 Tryd.underlying9 hr1; have HP4 := Aside0.mk (HP3.out.call hr HTL.out hg); have HP5 := Aside0.mk (HP4.out.set1 (strOfNums t)); have hf1 := HP4.out.frozen 1; have hc1 := HP4.out.cells.2.1))
      go_meet
      exact ⟨_, _, ⟨by unfold pSku; rw [h1, HQ2.out]; rfl⟩, HP5⟩
  case rest =>
    clear HP HP2 HP3 hf0 hc0
    obtain ⟨s, x2, HS, HP⟩ := hcut
    have hc0 := HP.out.cells.1
    go_upto_if 21 with (first | (go_at_call 90; refine (item_has _ k 2 (HG.out.keep HP.out.low HG.out.lt)).mono ?_; rintro e w' ⟨rfl, rfl⟩))
    go_cut [] (fun wx => ∃ (r : Int) (x : List Int × Int), Aside0 (pOrd k x2 = (r, x)) ∧ Aside0 (PSt w w.heap.size g k s r 0 (.slice none 0 0) x wx))
    case first =>
      cases h2 : iHas k 2
      · go_wp2_with fail
        go_meet
        exact ⟨_, _, ⟨by unfold pOrd; rw [h2]; rfl⟩, HP⟩
      · have HT := Aside0.mk (rd_Varint _ g _ _ HP.out.rd)
        have HTL := Aside0.mk (rVar_range _ x2.2 HP.out.rd.bytes)
        generalize hq : rVar x2.1 x2.2 = q at HT HTL
        obtain ⟨t, x3⟩ := q
        have HQ2 := Aside0.mk hq
        clear hq
        go_wp2_with (first | (go_at_call 59; refine HT.out.mono ?_; rintro e w' ⟨rfl, hr, hg⟩; have HP4 := Aside0.mk (HP.out.call hr HTL.out.2.2.2 hg)) | (go_at_call 102; refine (item_small _ t HTL.out.1).mono ?_; rintro e w2 ⟨rfl, rfl⟩; have HP5 := Aside0.mk (HP4.out.set2 (small t)); have hf1 := HP4.out.frozen 2; have hc1 := HP4.out.cells.2.2.1))
        go_meet
        exact ⟨_, _, ⟨by unfold pOrd; rw [h2, HQ2.out]; rfl⟩, HP5⟩
    case rest =>
      clear HP hc0
      obtain ⟨r, x3, HO, HP⟩ := hcut
      have hc0 := HP.out.cells.1
      go_upto_block 0 with fail
      go_cut [] (fun wx => ∃ (n : Int) (x : List Int × Int), Aside0 (pNum k x3 = (n, x)) ∧ Aside0 (PSt w w.heap.size g k s r n (.slice none 0 0) x wx))
      case first =>
        have HV := Aside0.mk (rd_Varint _ g _ _ HP.out.rd)
        have HI := Aside0.mk (rd_Int _ g _ _ HP.out.rd)
        have HTL := Aside0.mk (rVar_range _ x3.2 HP.out.rd.bytes)
        generalize hq : rVar x3.1 x3.2 = q at HV HI HTL
        obtain ⟨t, x4⟩ := q
        have HQ2 := Aside0.mk hq
        clear hq
        cases h8 : iHas k 8
        · cases h4 : iHas k 4
          · go_wp2_with (first | (go_at_call_of 90 (Value.int IntKind.i64 8); refine (item_has _ k 8 (HG.out.keep HP.out.low HG.out.lt)).mono ?_; rintro e w' ⟨rfl, rfl⟩) | (go_at_call_of 90 (Value.int IntKind.i64 4); refine (item_has _ k 4 (HG.out.keep HP.out.low HG.out.lt)).mono ?_; rintro e w' ⟨rfl, rfl⟩))
            go_meet
            exact ⟨_, _, ⟨by unfold pNum; rw [h8, h4]; rfl⟩, HP⟩
          · go_wp2_with (first | (go_at_call_of 90 (Value.int IntKind.i64 8); refine (item_has _ k 8 (HG.out.keep HP.out.low HG.out.lt)).mono ?_; rintro e w' ⟨rfl, rfl⟩) | (go_at_call_of 90 (Value.int IntKind.i64 4); refine (item_has _ k 4 (HG.out.keep HP.out.low HG.out.lt)).mono ?_; rintro e w' ⟨rfl, rfl⟩) | (go_at_call 59; refine HV.out.mono ?_; rintro e w' ⟨rfl, hr, hg⟩; have HP4 := Aside0.mk (HP.out.call hr HTL.out.2.2.2 hg)) | (go_at_call 102; refine (item_small _ t HTL.out.1).mono ?_; rintro e w2 ⟨rfl, rfl⟩; have HP5 := Aside0.mk (HP4.out.set3 (small t)); have hf1 := HP4.out.frozen 3; have hc1 := HP4.out.cells.2.2.2.1))
            go_meet
            exact ⟨_, _, ⟨by unfold pNum; rw [h8, h4, HQ2.out]; rfl⟩, HP5⟩
        · go_wp2_with (first | (go_at_call_of 90 (Value.int IntKind.i64 8); refine (item_has _ k 8 (HG.out.keep HP.out.low HG.out.lt)).mono ?_; rintro e w' ⟨rfl, rfl⟩) | (go_at_call 103; refine HI.out.mono ?_; rintro e w' ⟨rfl, hr, hg⟩; have HP4 := Aside0.mk (HP.out.call hr HTL.out.2.2.2 hg); have HP5 := Aside0.mk (HP4.out.set3 (zag t)); have hf1 := HP4.out.frozen 3; have hc1 := HP4.out.cells.2.2.2.1))
          go_meet
          exact ⟨_, _, ⟨by unfold pNum; rw [h8, HQ2.out]; rfl⟩, HP5⟩
      case rest =>
        clear HP hc0
        obtain ⟨n, x4, HN, HP⟩ := hcut
        have hc0 := HP.out.cells.1
        go_upto_if 43 with (first | (go_at_call 90; refine (item_has _ k 16 (HG.out.keep HP.out.low HG.out.lt)).mono ?_; rintro e w' ⟨rfl, rfl⟩))
        go_cut [] (fun wx => ∃ (ls : List Line) (v : Value) (x : List Int × Int), Aside0 (pLns k x4 = (ls, x)) ∧ Aside0 (PSt w w.heap.size g k s r n v x wx) ∧ Aside0 (Kd.R kLine 118 wx w.heap.size (fun j => j ≠ w.heap.size ∧ j ≠ g) v ls))
        case first =>
          cases h16 : iHas k 16
          · go_wp2_with fail
            go_meet
            exact ⟨_, _, _, ⟨by unfold pLns; rw [h16]; rfl⟩, HP, ⟨Kd.R_nil _ _ _ _ _⟩⟩
          · have HV := Aside0.mk (rd_Varint _ g _ _ HP.out.rd)
            have HTL := Aside0.mk (rVar_range _ x4.2 HP.out.rd.bytes)
            generalize hq : rVar x4.1 x4.2 = q at HV HTL
            obtain ⟨t, x5⟩ := q
            have HQ2 := Aside0.mk hq
            clear hq
            go_wp2_with (first | (go_at_call 59; refine HV.out.mono ?_; rintro e w' ⟨rfl, hr, hg⟩; have HP4 := Aside0.mk (HP.out.call hr HTL.out.2.2.2 hg); clear hr hg))
            have hM : min t 5 = ((min t.toNat 5 : Nat) : Int) := by have := HTL.out.1; omega
            rw [hM]
            have hM5 : min t.toNat 5 ≤ 5 := by omega
            have HPL : Aside0 (pLns k x4 = pIter (min t.toNat 5) x5) := ⟨by unfold pLns; rw [h16, HQ2.out]; rfl⟩
            generalize min t.toNat 5 = M at *
            clear hM HV HQ2 hc0 HP HTL
            have hwM : ∀ m : Nat, m ≤ M → IntKind.u64.wrap ((m : Int) + 1) = ((m + 1 : Nat) : Int) := fun m h => by rw [wrap_u64 _ (by omega) (by omega)]; omega
            have HWM := Aside0.mk hwM
            have HM5 := Aside0.mk hM5
            clear hwM hM5
            go_loopw [47] (fun y wr => ∃ (m : Nat) (ls : List Line) (v : Value) (x : List Int × Int), m ≤ M ∧ y = .int .u64 (m : Int) ∧ Aside0 (pIter m x5 = (ls, x)) ∧ Aside0 (ls.length = m) ∧ Aside0 (PSt w w.heap.size g k s r n v x wr) ∧ Aside0 (Kd.R kLine 118 wr w.heap.size (fun j => j ≠ w.heap.size ∧ j ≠ g) v ls)) (fun y _ => M - (intOf y).toNat)
            case atStart => exact ⟨0, [], _, x5, by omega, rfl, ⟨rfl⟩, ⟨rfl⟩, HP4, ⟨Kd.R_nil _ _ _ _ _⟩⟩
            case round =>
              clear HP4
              obtain ⟨m, ls, v4, x, hm, rfl, HIT, HLN, HP, HR⟩ := hrel
              by_cases hlt : m < M
              · have hb : decide ((m : Int) < (M : Int)) = true := by simp; omega
                have HTX := Aside0.mk (rd_Text _ g _ _ HP.out.rd HP.out.len)
                have HTL := Aside0.mk (rText_range _ x.2 HP.out.rd.bytes)
                have hpl : pLine x = (⟨strOfNums (rText x.1 x.2).1, small (rVar (rText x.1 x.2).2.1 (rText x.1 x.2).2.2).1⟩, (rVar (rText x.1 x.2).2.1 (rText x.1 x.2).2.2).2) := rfl
                generalize rText x.1 x.2 = q at HTX HTL hpl
                obtain ⟨tx, xa⟩ := q
                have HVL := Aside0.mk (rVar_range _ xa.2 HTL.out.2)
                have HVR := fun W h => rd_Varint W g xa.1 xa.2 h
                generalize rVar xa.1 xa.2 = q at HVL HVR hpl
                obtain ⟨u, xb⟩ := q
                have HPLN := Aside0.mk hpl
                clear hpl
                go_wp2_with (first | (go_at_call 62; refine HTX.out.mono ?_; rintro e wt ⟨vt, rfl, hv, hr, hg⟩; obtain ⟨A1, c1, e1, _, hr1⟩ := R_C hv; cases e1; have hcs := Kd.C_string (c := c1) Tryd.underlying22 Tryd.underlying5 Tryd.underlying9 hr1; have HPa := Aside0.mk (HP.out.call hr HTL.out.1 hg); have HRa := Aside0.mk (Kd.R_grown HR.out hg (fun j hj q => hj.2 (Option.some.inj q))); clear hv hr hg hr1))
                have hqg : wt.heap.size ≠ g := fun e => by have := HPa.out.lt.2; omega
                have hqb : wt.heap.size ≠ w.heap.size := fun e => by have := HPa.out.lt.1; omega
                have HQB := Aside0.mk hqb
                have HQG := Aside0.mk hqg
                have HBS := Aside0.mk HPa.out.low.size
                have HPb := Aside0.mk (HPa.out.below (below_alloc (Below.refl _ wt) (.cells #[.string (strOfNums tx), .int .i64 0] 118)))
                have HRb := Aside0.mk (Kd.R_alloc (Kd.R_elderB HRa.out wt.heap.size (Nat.le_refl _)) (.cells #[.string (strOfNums tx), .int .i64 0] 118))
                have HBq := Aside0.mk (blk_new wt (.cells #[.string (strOfNums tx), .int .i64 0] 118))
                clear HPa HRa hqg hqb hcs HTX HTL
                refine (HVR _ HPb.out.rd).mono ?_
                rintro en wv ⟨rfl, hr, hg⟩
                have HPc := Aside0.mk (HPb.out.call hr HVL.out.2.2.2 hg)
                have HRc := Aside0.mk (Kd.R_grown HRb.out hg (fun j hj q => hj.1.2 (Option.some.inj q)))
                have HBq2 := Aside0.mk (blk_grown HBq.out hg (fun q => HQG.out (Option.some.inj q)))
                have hcq0 : wv.cell? ⟨wt.heap.size, 0, none⟩ = some (.string (strOfNums tx)) := blk_cell HBq2.out 0
                have hcq1 : wv.cell? ⟨wt.heap.size, 1, none⟩ = some (.int .i64 0) := blk_cell HBq2.out 1
                have hfq1 := blk_frozen HBq2.out 1
                have HPd := Aside0.mk (HPc.out.other HBq2.out (by decide) HBS.out HQB.out HQG.out (grown_set (j := 1) (v := .int .i64 (small u)) (World.grownBy.refl wv _)))
                have HRd := Aside0.mk (Kd.R_mono (Kd.R_far (p := ⟨wt.heap.size, 1, none⟩) HRc.out (fun j hj => hj.2) (.int .i64 (small u))) (fun j hj => hj.1))
                have hc4 : wv.cell? ⟨w.heap.size, 4, none⟩ = some v4 := HPc.out.cells.2.2.2.2
                clear hr hg HBq HBq2 HPb HRb HRc HPc HVR
                obtain ⟨p, hp⟩ : ∃ p : Line, p = ⟨strOfNums tx, small u⟩ := ⟨_, rfl⟩
                have HPP := Aside0.mk hp
                clear hp
                go_wp2_with (first | (go_at_call 102; refine (item_small _ u HVL.out.1).mono ?_; rintro e w2 ⟨rfl, rfl⟩) | ((with_reducible refine gate_builtin (b := .append) (xs := #[.tmp 58, .tmp 60]) rfl ?_); at_builtin; refine Kd.R_append kLine (w0 := w) w.heap.size rfl (.tmp 58) (.tmp 60) 34 118 (.agg #[(.string ⟨#[]⟩), (.int .i64 0)]) 24 rfl Tryd.underlying34 infoLine rfl (by decide) (by omega) v4 ls (⟨strOfNums tx, small u⟩ : Line) [.string (strOfNums tx), .int .i64 (small u)] (fun j => j ≠ w.heap.size ∧ j ≠ g) (fun _ => False) rfl ?aX ?aP (fun _ hk => hk.elim) ?aF ?aO ?aB ?aS ?aL ?_; (case aX => (simp only [World.size_setCell]; rfl)); (case aP => exact k118_mkM _ _ _ (⟨strOfNums tx, small u⟩ : Line)); (case aB => exact HPd.out.low); (case aF => exact (fun j hj => ⟨fun e => by have := HPd.out.lt.1; omega, fun e => by have := HPd.out.lt.2; omega⟩)); (case aO => exact HRd.out); (case aS => exact HPd.out.low.size); (case aL => (have h1 := HLN.out; have h2 := HM5.out; omega)); intro v7 w7 hv hw hg7 hat7; obtain ⟨A7, c7, e7⟩ := Kd.R_slice hv; rw [List.length_append, List.length_singleton] at e7; subst e7; have HP7 := Aside0.mk (HPd.out.app HRd.out (fun j hj => hj) (by decide) hg7); have HP8 := Aside0.mk (HP7.out.set4 (.slice A7 (ls.length + 1) c7)); have HR8 := Aside0.mk (Kd.R_far (p := ⟨w.heap.size, 4, none⟩) hv (fun j hj => hj.1) (.slice A7 (ls.length + 1) c7)); have hc7 := HP7.out.cells.2.2.2.2; have hf7 := HP7.out.frozen 4; clear hv hw hg7 hat7))
                go_roundw
                case rel => exact ⟨m + 1, _, _, _, by omega, by rw [HWM.out m (by omega)], ⟨pIter_snoc HIT.out HPLN.out⟩, ⟨by have h := HLN.out; simp; omega⟩, HP8, HR8⟩
                case measure =>
                  rw [HWM.out m (by omega)]
                  simp only [intOf]
                  omega
              · have hb : decide ((m : Int) < (M : Int)) = false := by simp; omega
                obtain rfl : m = M := by omega
                go_wp2_with fail
                go_meet
                exact ⟨_, _, _, ⟨HPL.out.trans HIT.out⟩, HP, HR⟩
        case rest =>
          clear HP hc0
          obtain ⟨ls, v4, x5, HLS, HP, HR⟩ := hcut
          obtain ⟨hc0, hc1, hc2, hc3, hc4⟩ := HP.out.cells
          have hf := HP.out.frozen
          have hf0 := hf 0
          have hf1 := hf 1
          have hf2 := hf 2
          have hf3 := hf 3
          have hf4 := hf 4
          clear hf
          have hp0 : pOp0 l = (⟨k, s, r, n, ls⟩, x5) := by
            unfold pOp0
            simp only [HQ.out, HS.out, HO.out, HN.out, HLS.out]
          have hp : pOp l = if x5.2 ≠ 0 then (zOp, x5.2) else if rEnd x5.1 x5.2 ≠ 0 then (zOp, 4) else if opE (⟨k, s, r, n, ls⟩ : Opn) ≠ 0 then (zOp, 4) else (⟨k, s, r, n, ls⟩, 0) := by
            unfold pOp
            rw [hp0]
          obtain ⟨y, e⟩ := x5
          simp only at hp
          clear hp0
          by_cases he : e = 0
          · subst he
            rw [if_neg (by simp)] at hp
            by_cases hy : 0 < y.length
            · have hend : rEnd y 0 = 4 := by unfold rEnd; rw [if_pos ⟨rfl, hy⟩]
              rw [hend, if_pos (by decide)] at hp
              have HEND := rd_End wc g y 0 HP.out.rd
              rw [hend] at HEND
              have HPO := Aside0.mk hp
              clear hp hy hend
              go_wp2_with (first | (go_at_call 54; refine (rd_Err _ g _ _ HP.out.rd).mono ?_; rintro e w' ⟨rfl, rfl⟩) | (go_at_call 63; refine HEND.mono ?_; rintro e w' ⟨rfl, rfl⟩))
              have hPz := ((((HP.out.set0 0).set1 ⟨#[]⟩).set2 0).set3 0).set4 (.slice none 0 0)
              refine bodyPost_ret (ret_op hPz rfl rfl) rfl ⟨.slice none 0 0, ?_, ?_, hPz.low⟩
              · rw [HPO.out]; rfl
              · rw [HPO.out]; exact Kd.R_nil _ _ _ _ _
            · have hend : rEnd y 0 = 0 := by unfold rEnd; rw [if_neg (fun h => hy h.2)]
              rw [hend, if_neg (by simp)] at hp
              have HEND := rd_End wc g y 0 HP.out.rd
              rw [hend] at HEND
              obtain ⟨A4, c4, e4, hcc4, hr4⟩ := R_C HR.out
              cases e4
              have HCK := item_Check wc A4 c4 ⟨k, s, r, n, ls⟩ (HG.out.keep HP.out.low HG.out.lt) hr4 hcc4
              have hE : opE (⟨k, s, r, n, ls⟩ : Opn) = if opOk (⟨k, s, r, n, ls⟩ : Opn) then 0 else 2 := rfl
              cases hok : opOk (⟨k, s, r, n, ls⟩ : Opn)
              · rw [hok] at hE
                simp only [Bool.false_eq_true, if_false] at hE
                rw [hE, if_pos (by decide)] at hp
                rw [hE] at HCK
                have HPO := Aside0.mk hp
                clear hp hy hend hE hok hcc4 hr4
                go_wp2_with (first | (go_at_call 54; refine (rd_Err _ g _ _ HP.out.rd).mono ?_; rintro e w' ⟨rfl, rfl⟩) | (go_at_call 63; refine HEND.mono ?_; rintro e w' ⟨rfl, rfl⟩) | (go_at_call 81; refine HCK.mono ?_; rintro e w' ⟨rfl, hb⟩; have HP2 := Aside0.mk (HP.out.below hb); obtain ⟨gc0, gc1, gc2, gc3, gc4⟩ := HP2.out.cells; have gf := HP2.out.frozen; have gf0 := gf 0; have gf1 := gf 1; have gf2 := gf 2; have gf3 := gf 3; have gf4 := gf 4; clear gf))
                have hPz := ((((HP2.out.set0 0).set1 ⟨#[]⟩).set2 0).set3 0).set4 (.slice none 0 0)
                refine bodyPost_ret (ret_op hPz rfl rfl) rfl ⟨.slice none 0 0, ?_, ?_, hPz.low⟩
                · rw [HPO.out]; rfl
                · rw [HPO.out]; exact Kd.R_nil _ _ _ _ _
              · rw [hok] at hE
                simp only [if_true] at hE
                rw [hE, if_neg (by simp)] at hp
                rw [hE] at HCK
                have HPO := Aside0.mk hp
                clear hp hy hend hE hok hcc4 hr4
                go_wp2_with (first | (go_at_call 54; refine (rd_Err _ g _ _ HP.out.rd).mono ?_; rintro e w' ⟨rfl, rfl⟩) | (go_at_call 63; refine HEND.mono ?_; rintro e w' ⟨rfl, rfl⟩) | (go_at_call 81; refine HCK.mono ?_; rintro e w' ⟨rfl, hb⟩; have HP2 := Aside0.mk (HP.out.below hb); have HR2 := Aside0.mk (Kd.R_below HR.out hb); obtain ⟨gc0, gc1, gc2, gc3, gc4⟩ := HP2.out.cells; have gf := HP2.out.frozen; have gf0 := gf 0; have gf1 := gf 1; have gf2 := gf 2; have gf3 := gf 3; have gf4 := gf 4; clear gf))
                have hPz := ((((HP2.out.set0 k).set1 s).set2 r).set3 n).set4 (.slice A4 ls.length c4)
                refine bodyPost_ret (ret_op hPz rfl rfl) rfl ⟨.slice A4 ls.length c4, ?_, ?_, hPz.low⟩
                · rw [HPO.out]
                · rw [HPO.out]
                  exact Kd.R_mono (Kd.R_far (Kd.R_far (Kd.R_far (Kd.R_far (Kd.R_far HR2.out (p := ⟨w.heap.size, 0, none⟩) (fun j hj => hj.1) _) (p := ⟨w.heap.size, 1, none⟩) (fun j hj => hj.1) _) (p := ⟨w.heap.size, 2, none⟩) (fun j hj => hj.1) _) (p := ⟨w.heap.size, 3, none⟩) (fun j hj => hj.1) _) (p := ⟨w.heap.size, 4, none⟩) (fun j hj => hj.1) _) (fun _ _ => trivial)
          · rw [if_pos he] at hp
            have hz : (e != 0) = true := by rw [bne_iff_ne]; exact he
            have HPO := Aside0.mk hp
            clear hp he
            go_wp2_with (first | (go_at_call 54; refine (rd_Err _ g _ _ HP.out.rd).mono ?_; rintro e w' ⟨rfl, rfl⟩))
            have hPz := ((((HP.out.set0 0).set1 ⟨#[]⟩).set2 0).set3 0).set4 (.slice none 0 0)
            refine bodyPost_ret (ret_op hPz rfl rfl) rfl ⟨.slice none 0 0, ?_, ?_, hPz.low⟩
            · rw [HPO.out]; rfl
            · rw [HPO.out]; exact Kd.R_nil _ _ _ _ _
end Go.Proofs.YtmeblifbkhpdnaaDoor.K
