/- Contract of record.parse. -/
import Derived.Test.YtmeblifbkhpdnaaDoorGg
namespace Go.Proofs.YtmeblifbkhpdnaaDoor.K
set_option linter.unusedVariables false
set_option linter.unusedSimpArgs false
open Go.RowKit Go.Proofs.YtmeblifbkhpdnaaDoorW.PrintWords Go.Proofs.YtmeblifbkhpdnaaDoorW.PrintLast Go.Proofs.YtmeblifbkhpdnaaDoorW.PrintMore
theorem RSt.made {w w1 : World} {g : Nat} {l : List Int} (hr : Rd w1 g l 0) (hg : w.heap.size + 1 ≤ g)
    (hb : Below (w.heap.size + 1) (w.alloc (.cells (recC (zRec 0) (.slice none 0 0) (.slice none 0 0)) 41)) w1) : RSt w w.heap.size g (zRec 0) (.slice none 0 0) (.slice none 0 0) (l, 0) l w1 :=
  ⟨(hb.block _ (by omega)).trans (blk_new w _), hr, by omega, Nat.le_refl _, by omega, (below_alloc (Below.refl _ _) _).trans (hb.mono (by omega)), List.suffix_refl _⟩
theorem rText_suffix (l : List Int) (e : Int) : (rText l e).2.1 <:+ l := by
  unfold rText
  split
  · exact rVar_suffix l e
  · split
    · exact List.nil_suffix
    · exact (List.drop_suffix _ _).trans (rVar_suffix l e)
/-- A record's box, while calls go on. -/
abbrev RBX (w0 : World) (b g : Nat) (r : Rec) (v u : Value) (x : List Int × Int) (l0 : List Int) (W : World) : Prop :=
  W.cell? ⟨b, 0, none⟩ = some (.int .i64 r.f0) ∧ W.cell? ⟨b, 1, none⟩ = some (.int .i64 r.f1) ∧ W.cell? ⟨b, 2, none⟩ = some (.int .i64 r.f2) ∧ W.cell? ⟨b, 3, none⟩ = some (.int .i64 r.f3) ∧ W.cell? ⟨b, 4, none⟩ = some (.int .i64 r.f4.f0) ∧ W.cell? ⟨b, 5, none⟩ = some (.int .i64 r.f4.f1) ∧ W.cell? ⟨b, 6, none⟩ = some (.int .i64 r.f4.f2.f0) ∧ W.cell? ⟨b, 7, none⟩ = some (.string r.f4.f2.f1) ∧ W.cell? ⟨b, 8, none⟩ = some (.int .i64 r.f4.f2.f2) ∧ W.cell? ⟨b, 9, none⟩ = some (.int .i64 r.f4.f2.f3) ∧ W.cell? ⟨b, 10, none⟩ = some v ∧ W.cell? ⟨b, 11, none⟩ = some u ∧
  W.frozen? ⟨b, 0, none⟩ = false ∧ W.frozen? ⟨b, 1, none⟩ = false ∧ W.frozen? ⟨b, 2, none⟩ = false ∧ W.frozen? ⟨b, 3, none⟩ = false ∧ W.frozen? ⟨b, 4, none⟩ = false ∧ W.frozen? ⟨b, 5, none⟩ = false ∧ W.frozen? ⟨b, 6, none⟩ = false ∧ W.frozen? ⟨b, 7, none⟩ = false ∧ W.frozen? ⟨b, 8, none⟩ = false ∧ W.frozen? ⟨b, 9, none⟩ = false ∧ W.frozen? ⟨b, 10, none⟩ = false ∧ W.frozen? ⟨b, 11, none⟩ = false ∧ Aside0 (RSt w0 b g r v u x l0 W)
theorem RBX.of {w0 W : World} {b g : Nat} {r : Rec} {v u : Value} {x : List Int × Int} {l0 : List Int} (h : RSt w0 b g r v u x l0 W) : RBX w0 b g r v u x l0 W := by
  obtain ⟨⟨q0, q1, q2, q3, q4, q5, q6, q7, q8, q9, q10, q11⟩, ⟨f0, f1, f2, f3, f4, f5, f6, f7, f8, f9, f10, f11⟩⟩ := box12 h.box
  exact ⟨q0, q1, q2, q3, q4, q5, q6, q7, q8, q9, q10, q11, f0, f1, f2, f3, f4, f5, f6, f7, f8, f9, f10, f11, ⟨h⟩⟩
theorem RBX.st {w0 W : World} {b g : Nat} {r : Rec} {v u : Value} {x : List Int × Int} {l0 : List Int} (h : RBX w0 b g r v u x l0 W) : RSt w0 b g r v u x l0 W := h.2.2.2.2.2.2.2.2.2.2.2.2.2.2.2.2.2.2.2.2.2.2.2.2.out
theorem RBX.drew {w0 W : World} {b g : Nat} {r : Rec} {v u : Value} {x : List Int × Int} {l0 : List Int} (h : RBX w0 b g r v u x l0 W) : RBX w0 b g r v u x l0 W.drew := RBX.of (h.st.below (below_drew (Below.refl _ _)))
theorem RBX.next {w0 W W' : World} {b g : Nat} {r : Rec} {v u : Value} {x : List Int × Int} {l0 : List Int} (hb : Below W.heap.size W W') (h : RBX w0 b g r v u x l0 W) : RBX w0 b g r v u x l0 W' := RBX.of (h.st.below hb)
theorem RSt.same {w0 W : World} {b g : Nat} {r : Rec} {v u : Value} {x : List Int × Int} {l0 : List Int} (h : RSt w0 b g r v u x l0 W) : RSt w0 b g r v u x l0 (put12 W b (.int .i64 r.f0) (.int .i64 r.f1) (.int .i64 r.f2) (.int .i64 r.f3) (.int .i64 r.f4.f0) (.int .i64 r.f4.f1) (.int .i64 r.f4.f2.f0) (.string r.f4.f2.f1) (.int .i64 r.f4.f2.f2) (.int .i64 r.f4.f2.f3) v u) :=
  h.put (put12_box h.box) (put12_grown _ _ _ _ _ _ _ _ _ _ _ _ _ _)
/-- A number's place, told in a box of its own. -/
abbrev XS (q b off : Nat) (w0 W : World) : Prop := W.cell? ⟨q, 0, none⟩ = some (.pointer (some ⟨b, off, none⟩)) ∧ Aside0 (w0.heap.size ≤ q)
theorem XS.drew {q b off : Nat} {w0 W : World} (h : XS q b off w0 W) : XS q b off w0 W.drew := by
  obtain ⟨h0, h1⟩ := h
  exact ⟨by simpa using h0, h1⟩
theorem XS.call {q b off g : Nat} {w0 W W' : World} (hg : W.grownBy W' (some g)) (h : XS q b off w0 W) (hne : q ≠ g) : XS q b off w0 W' :=
  ⟨hg.cell h.1 (fun e => hne (Option.some.inj e)), h.2⟩
theorem XS.set {q b off : Nat} {w0 W : World} (h : XS q b off w0 W) (hne : q ≠ b) (v : Value) (j : Nat) : XS q b off w0 (W.setCell ⟨b, j, none⟩ v) :=
  ⟨(grown_set (j := j) (v := v) (World.grownBy.refl W (some b))).cell h.1 (fun e => hne (Option.some.inj e)), h.2⟩
set_option maxRecDepth 20000 in
set_option maxHeartbeats 8000000 in
theorem record_parse (w : World) (A : Option Addr) (c : Nat) (l : List Int) (hG : GItem w) (hH : GRec w) (hC : Kd.C (Kd.int .u8) w A l.length l) (hc : l.length ≤ c) (hb : CrcMath.Bytes l) (hl : l.length < 1099511627776) :
    Calls Tryd.prog 26 #[.slice A l.length c] w fun en w' => ∃ r v u, en = .returned (.tuple #[recV r v u, .bool (pRec l).isSome]) ∧ Kd.R kLine 118 w' w.heap.size (fun _ => True) v r.f4.f2.f4 ∧ Kd.R kEnt 38 w' w.heap.size (fun _ => True) u r.f5 ∧ (∀ y, pRec l = some y → r = y) ∧ Below w.heap.size w w' := by
  have HG := Aside0.mk hG
  have HH := Aside0.mk hH
  have HC := Aside0.mk hC
  have HCC := Aside0.mk hc
  have HBY := Aside0.mk hb
  have HL := Aside0.mk hl
  clear hG hH hC hc hb hl
  have HREAD := bits_Read (w.alloc (.cells #[.int .i64 0, .int .i64 0, .int .i64 0, .int .i64 0, .int .i64 0, .int .i64 0, .int .i64 0, .string ⟨#[]⟩, .int .i64 0, .int .i64 0, .slice none 0 0, .slice none 0 0] 41)) A c l (Kd.C_alloc HC.out _) HCC.out HBY.out (by have := HL.out; omega)
  have hQ := rNum1_range l 0 HBY.out
  have hQS := rNum_suffix 1 l 0
  have hp : pRec l = pRec1 (rHas (rNum 1 l 0).1) (pNumsN (rHas (rNum 1 l 0).1) (zRec (rNum 1 l 0).1) (rNum 1 l 0).2 3) := rfl
  have HNUM := fun W g h => rd_Num 1 (.inl rfl) W g l 0 h 8 rfl
  generalize rNum 1 l 0 = q at hQ hQS hp HNUM
  obtain ⟨k, x1⟩ := q
  simp only at hp hQ hQS HNUM
  have hkw : wrap64 k = k := wrap64_in (by omega) (by omega)
  have HQS := Aside0.mk hQS
  have HHAS := Aside0.mk (fun W hb => record_has W k (HH.out.keep (n := w.heap.size) hb HH.out.lt))
  generalize rHas k = own at *
  have HP := Aside0.mk hp
  clear hQ hQS hp
  go_enter Tryd.func26, Tryd.ntmps26
  go_upto_block 0 with (first
    | (go_at_call 24; go_loud (refine HREAD.mono ?_; rintro en w1 ⟨g, rfl, hge, hr, hbb⟩; rw [World.size_alloc] at hge hbb; have HS := Aside0.mk (RSt.made hr hge hbb); clear hr hbb hge HREAD))
    | (go_at_call 25; refine (HNUM _ g HS.out.rd).mono ?_; rintro en w2 ⟨rfl, hr, hg⟩; have HS2 := Aside0.mk (HS.out.call hr HQS.out hg); have hc0 : w2.cell? ⟨w.heap.size, 0, none⟩ = some (.int .i64 0) := blk_cell HS2.out.box 0; have hf0 := blk_frozen HS2.out.box 0; have HS3 := Aside0.mk (HS2.out.set0 k); clear hr hg)
    | (go_at_call 32; refine (HHAS.out _ HS3.out.low).mono ?_; rintro en w3 ⟨rfl, rfl⟩)
    | (go_at_call 33; refine (record_numbers _ w.heap.size).mono ?_; rintro en w3 ⟨rfl, hb⟩; have HS4 := Aside0.mk (HS3.out.below hb); clear hb))
  have HS5 : Aside0 (RSt w w.heap.size g (zRec k) (.slice none 0 0) (.slice none 0 0) x1 l w3) := ⟨HS4.out⟩
  clear HS HS2 HS3 HS4 hc0 hf0 HNUM HHAS
  go_cut [] (fun wx => ∃ (r : Rec) (x : List Int × Int), Aside0 (pNumsN own (zRec k) x1 3 = (r, x)) ∧ Aside0 (r.f4 = zEnt ∧ r.f5 = []) ∧ Aside0 (RSt w w.heap.size g r (.slice none 0 0) (.slice none 0 0) x l wx))
  case first =>
    go_wp2_with fail
    go_loopw [19] (fun v wr => ∃ (j : Nat) (r : Rec) (x : List Int × Int), j ≤ 3 ∧ v = .int .i64 (j : Int) ∧ Aside0 (pNumsN own (zRec k) x1 j = (r, x)) ∧ Aside0 (r.f4 = zEnt ∧ r.f5 = []) ∧ Aside0 (RSt w w.heap.size g r (.slice none 0 0) (.slice none 0 0) x l wr)) (fun v _ => 3 - (intOf v).toNat)
    case atStart => exact ⟨0, zRec k, x1, by omega, rfl, ⟨rfl⟩, ⟨rfl, rfl⟩, HS5⟩
    case round =>
      clear HS5
      obtain ⟨j, r, x, hj, rfl, HPN, HRZ, HS⟩ := hrel
      by_cases hlt : j < 3
      · have hb : decide ((j : Int) < 3) = true := by simp; omega
        have hix := nums_index w.heap.size j hlt
        have hw1 := below_alloc (Below.refl wr.heap.size wr) (.cells #[.pointer (some ⟨w.heap.size, nOff j, none⟩), .int .i64 (nWhat j)] 65)
        have hp0 : (wr.alloc (.cells #[.pointer (some ⟨w.heap.size, nOff j, none⟩), .int .i64 (nWhat j)] 65)).cell? ⟨wr.heap.size, 0, none⟩ = some (.pointer (some ⟨w.heap.size, nOff j, none⟩)) := by simp
        have hp1 : (wr.alloc (.cells #[.pointer (some ⟨w.heap.size, nOff j, none⟩), .int .i64 (nWhat j)] 65)).cell? ⟨wr.heap.size, 1, none⟩ = some (.int .i64 (nWhat j)) := by simp
        have HS1 := Aside0.mk (HS.out.below hw1)
        have hqb : wr.heap.size ≠ w.heap.size := fun e => by have := HS.out.lt.1; omega
        have hqg : wr.heap.size ≠ g := fun e => by have := HS.out.lt.2; omega
        have hqs : w.heap.size ≤ wr.heap.size := HS.out.low.size
        have HQ := Aside0.mk (And.intro hqb (And.intro hqg hqs))
        have hpn : pNumsN own (zRec k) x1 (j + 1) = if bits .and .i64 own (nWhat j) != 0 then (setN (pNumsN own (zRec k) x1 j).1 j (min (rVar (pNumsN own (zRec k) x1 j).2.1 (pNumsN own (zRec k) x1 j).2.2).1 9007199254740992), (rVar (pNumsN own (zRec k) x1 j).2.1 (pNumsN own (zRec k) x1 j).2.2).2) else pNumsN own (zRec k) x1 j := rfl
        rw [HPN.out] at hpn
        have HPN2 := Aside0.mk hpn
        have HLT := Aside0.mk hlt
        obtain ⟨q, hq⟩ : ∃ q, q = wr.heap.size := ⟨_, rfl⟩
        clear hw1 HS hqb hqg hqs hpn
        go_upto_if 26 with fail
        clear hix
        rw [← hq] at hp0 hp1 HQ ⊢
        clear hq
        generalize wr.alloc (.cells #[.pointer (some ⟨w.heap.size, nOff j, none⟩), .int .i64 (nWhat j)] 65) = W1 at *
        cases h1 : bits .and .i64 own (nWhat j) != 0
        · have HPN3 : Aside0 (pNumsN own (zRec k) x1 (j + 1) = (r, x)) := ⟨by rw [HPN2.out, h1]; rfl⟩
          go_wp2_with fail
          go_roundw
          case rel => exact ⟨j + 1, r, x, by have := HLT.out; omega, by go_num, HPN3, HRZ, HS1⟩
          case measure => (have := HLT.out; simp [intOf]; omega)
        · have HV := fun W h => rd_Varint W g x.1 x.2 h
          have hvr := rVar_range x.1 x.2 HS1.out.rd.bytes
          have hvs := rVar_suffix x.1 x.2
          have hpn := HPN2.out
          rw [h1, if_pos rfl] at hpn
          simp only at hpn
          generalize rVar x.1 x.2 = qq at HV hvr hvs hpn
          obtain ⟨n, y⟩ := qq
          simp only at HV hvr hvs hpn
          have hmw : IntKind.i64.wrap (min n 9007199254740992) = min n 9007199254740992 := by rw [IntKind.wrap_i64]; omega
          have HMW := Aside0.mk hmw
          clear hmw
          have HVS := Aside0.mk hvs
          have HPN3 := Aside0.mk hpn
          clear hvr hvs hpn
          have hxs : XS q w.heap.size (nOff j) w W1 := ⟨hp0, ⟨HQ.out.2.2⟩⟩
          have HSd := Aside0.mk (HS1.out.below (below_drew (Below.refl _ _)))
          have HV1 := Aside0.mk (HV W1.drew HSd.out.rd)
          clear HV
          go_upto_region 8 with fail
          clear hp0 hp1
          go_region_held3 (fun W' => XS q w.heap.size (nOff j) w W') (first | assumption | (apply XS.drew; assumption) | (exact XS.call hg (XS.drew hxs) HQ.out.2.1) | (refine XS.set ?_ HQ.out.1 _ _; assumption))
            (first
              | (go_at_call 59; refine HV1.out.mono ?_; rintro e wv ⟨rfl, hr, hg⟩; have HS2 := Aside0.mk (HSd.out.call hr HVS.out hg); have hcN := nums_cell HS2.out.box j HLT.out; have hfN := blk_frozen HS2.out.box (nOff j)))
          have HS3 := Aside0.mk (HS2.out.setN j HLT.out (min n 9007199254740992))
          rw [HMW.out]
          go_wp2_with fail
          go_roundw
          case rel =>
            refine ⟨j + 1, setN r j (min n 9007199254740992), y, by have := HLT.out; omega, by go_num, HPN3, ⟨?_⟩, HS3⟩
            unfold setN
            split
            · exact HRZ.out
            · split
              · exact HRZ.out
              · exact HRZ.out
          case measure => (have := HLT.out; simp [intOf]; omega)
      · have hb : decide ((j : Int) < 3) = false := by simp; omega
        obtain rfl : j = 3 := by omega
        go_wp2_with fail
        go_meet
        exact ⟨r, x, HPN, HRZ, HS⟩
  case rest =>
    clear HS5
    obtain ⟨r, x, HPN, HRZ, HS⟩ := hcut
    have hp := HP.out
    rw [HPN.out] at hp
    obtain ⟨y, e⟩ := x
    obtain ⟨hz4, hz5⟩ := HRZ.out
    obtain ⟨r0, r1, r2, r3, r4, r5⟩ := r
    simp only at hz4 hz5
    subst hz4 hz5
    clear HP HPN HRZ
    by_cases he : e = 0
    · subst he
      have hp2 : pRec l = if bits .and .i64 own 4 != 0 then (if (pEnt y).2 = 0 ∧ recE (⟨r0, r1, r2, r3, (pEnt y).1, []⟩ : Rec) = 0 then some ⟨r0, r1, r2, r3, (pEnt y).1, []⟩ else none) else
          if bits .and .i64 own 8 != 0 then (if (pRows (rText y 0).1).2 = 0 ∧ rEnd (rText y 0).2.1 (rText y 0).2.2 = 0 ∧ recE (⟨r0, r1, r2, r3, zEnt, (pRows (rText y 0).1).1⟩ : Rec) = 0 then some ⟨r0, r1, r2, r3, zEnt, (pRows (rText y 0).1).1⟩ else none) else
          if rEnd y 0 = 0 ∧ recE (⟨r0, r1, r2, r3, zEnt, []⟩ : Rec) = 0 then some ⟨r0, r1, r2, r3, zEnt, []⟩ else none := by
        rw [hp]
        unfold pRec1
        rw [if_neg (by simp)]
      clear hp
      go_upto_block 2 with (first | (go_at_call 54; refine (rd_Err _ g y 0 HS.out.rd).mono ?_; rintro en w4 ⟨rfl, rfl⟩))
      go_cut [8] (fun s8 wx => ∃ (rows : List Ent) (u' : Value) (x' : List Int × Int) (er : Int), s8 = .int .i64 er ∧ Aside0 (RSt w w.heap.size g ⟨r0, r1, r2, r3, zEnt, rows⟩ (.slice none 0 0) u' x' l wx) ∧ Aside0 (Kd.R kEnt 38 wx w.heap.size (fun j => j ≠ w.heap.size) u' rows) ∧ Aside0 (pRec l = if er = 0 ∧ rEnd x'.1 x'.2 = 0 ∧ recE (⟨r0, r1, r2, r3, zEnt, rows⟩ : Rec) = 0 then some ⟨r0, r1, r2, r3, zEnt, rows⟩ else none))
      case first =>
        cases h4 : bits .and .i64 own 4 != 0
        · rw [h4] at hp2
          simp only [Bool.false_eq_true, if_false] at hp2
          cases h8 : bits .and .i64 own 8 != 0
          · rw [h8] at hp2
            simp only [Bool.false_eq_true, if_false] at hp2
            have HP := Aside0.mk hp2
            clear hp2
            go_wp2_with fail
            go_meet
            exact ⟨[], .slice none 0 0, (y, 0), 0, rfl, HS, ⟨Kd.R_nil _ _ _ _ _⟩, ⟨by rw [HP.out]; simp⟩⟩
          · rw [h8, if_pos rfl] at hp2
            have HTX := Aside0.mk (rd_Text wc g y 0 HS.out.rd (by have h1 := HS.out.suf.length_le; have h2 := HL.out; simp only at h1; omega))
            have HTS := Aside0.mk (rText_suffix y 0)
            have HTV := Aside0.mk (rText_val y 0 HS.out.rd.bytes)
            generalize rText y 0 = q at hp2 HTX HTS HTV
            obtain ⟨tx, ya, ea⟩ := q
            simp only at hp2
            have HROW := Aside0.mk (fun W A2 c2 h1 h2 h3 => entry_Rows W A2 c2 tx h1 h2 h3 HTV.out.2 (by have h0 : tx.length ≤ y.length := HTV.out.1; have h1 := HS.out.suf.length_le; have h2 := HL.out; simp only at h1; omega))
            generalize pRows tx = q at hp2 HROW
            obtain ⟨rows, er⟩ := q
            simp only at hp2 HROW
            have HP := Aside0.mk hp2
            clear hp2
            go_wp2_with (first
              | (go_at_call 62; refine HTX.out.mono ?_; rintro en w4 ⟨v4, rfl, hv, hr, hg⟩; obtain ⟨A4, c4, e4, hc4, hr4⟩ := R_C hv; subst e4; have HS4 := Aside0.mk (HS.out.call hr HTS.out hg); have HC4 := Aside0.mk hr4; have HCC4 := Aside0.mk hc4; clear hv hr hg hr4 hc4)
              | (go_at_call 61; refine (HROW.out w4 A4 c4 (HG.out.keep HS4.out.low HG.out.lt) HC4.out HCC4.out).mono ?_; rintro en w5 ⟨v5, rfl, hv, hb⟩; obtain ⟨A5, c5, e5⟩ := Kd.R_slice hv; subst e5; have HS5 := Aside0.mk (HS4.out.below hb); have HV5 := Aside0.mk (Kd.R_lower (Kd.R_mono (Kd.R_bound hv) (ok' := fun j => j ≠ w.heap.size) (fun j hj e => by have h1 := hj.2.1; have h2 := HS4.out.lt.1; omega)) HS4.out.low.size); have q11 : w5.cell? ⟨w.heap.size, 11, none⟩ = some (.slice none 0 0) := blk_cell HS5.out.box 11; have f11 := blk_frozen HS5.out.box 11; have HS6 := Aside0.mk (HS5.out.setL rows (.slice A5 rows.length c5)); clear hv hb))
            go_meet
            exact ⟨rows, _, (ya, ea), er, rfl, HS6, ⟨Kd.R_far (p := ⟨w.heap.size, 11, none⟩) HV5.out (fun j hj => hj) _⟩, HP⟩
        · rw [h4, if_pos rfl] at hp2
          have HPAR := Aside0.mk (fun W A2 c2 h1 h2 h3 h4 => entry_Parse W A2 c2 y h1 h2 h3 h4 (by have h1 := HS.out.suf.length_le; have h2 := HL.out; simp only at h1; omega))
          generalize pEnt y = q at hp2 HPAR
          obtain ⟨p, ep⟩ := q
          simp only at hp2 HPAR
          have HP := Aside0.mk hp2
          clear hp2
          have hsuf := List.suffix_iff_eq_drop.1 HS.out.suf
          have hle := HS.out.suf.length_le
          simp only at hsuf hle
          obtain ⟨m, hm⟩ : ∃ m, m = l.length - y.length := ⟨_, rfl⟩
          have hlm : l.length - m = y.length := by omega
          obtain ⟨A', hcut, hAC, hcap, _⟩ := bytes_drop .i64 A c l m (by omega) HCC.out
          have hdm : l.drop m = y := by rw [hm]; exact hsuf.symm
          rw [hdm] at hAC hcap
          rw [hlm] at hcut
          have hwm : wrap64 ((l.length : Int) - (y.length : Int)) = (m : Int) := by have := HL.out; rw [wrap64_in (by omega) (by omega)]; omega
          have HAC := Aside0.mk hAC
          have HCAP := Aside0.mk hcap
          have HYB := Aside0.mk HS.out.rd.bytes
          clear hAC hcap hm hlm hdm hsuf hle
          obtain ⟨⟨_, _, _, _, q4, q5, q6, q7, q8, q9, q10, _⟩, ⟨_, _, _, _, f4, f5, f6, f7, f8, f9, f10, _⟩⟩ := box12 HS.out.box
          go_upto_region 15 with (first
            | (go_at_call 54; refine (rd_Err _ g y 0 HS.out.rd).mono ?_; rintro en w4 ⟨rfl, rfl⟩)
            | (go_at_call 57; refine (rd_Left _ g y 0 HS.out.rd).mono ?_; rintro en w4 ⟨rfl, rfl⟩)
            | (go_at_call 60; refine (HPAR.out wc A' _ (HG.out.keep HS.out.low HG.out.lt) (HAC.out _ (Kd.C_below HC.out HS.out.low)) HCAP.out HYB.out).mono ?_; rintro en w4 ⟨v4, rfl, hv, hb⟩; obtain ⟨A4, c4, e4⟩ := Kd.R_slice hv; subst e4; have HV := Aside0.mk (Kd.R_lower hv HS.out.low.size); have HWS := Aside0.mk (show wc.heap.size ≤ w4.heap.size from hb.size); have HS4 := Aside0.mk (HS.out.below hb); have HS5 := Aside0.mk (HS4.out.setE p (.slice A4 p.f2.f4.length c4)); clear q4 q5 q6 q7 q8 q9 q10 f4 f5 f6 f7 f8 f9 f10; obtain ⟨⟨_, _, _, _, q4, q5, q6, q7, q8, q9, q10, _⟩, ⟨_, _, _, _, f4, f5, f6, f7, f8, f9, f10, _⟩⟩ := box12 HS4.out.box; clear hv hb))
          have HS6 : Aside0 (RSt w w.heap.size g ⟨r0, r1, r2, r3, p, []⟩ (.slice A4 p.f2.f4.length c4) (.slice none 0 0) (y, 0) l (((((((w4.setCell ⟨w.heap.size, 4, none⟩ (.int .i64 p.f0)).setCell ⟨w.heap.size, 5, none⟩ (.int .i64 p.f1)).setCell ⟨w.heap.size, 6, none⟩ (.int .i64 p.f2.f0)).setCell ⟨w.heap.size, 7, none⟩ (.string p.f2.f1)).setCell ⟨w.heap.size, 8, none⟩ (.int .i64 p.f2.f2)).setCell ⟨w.heap.size, 9, none⟩ (.int .i64 p.f2.f3)).setCell ⟨w.heap.size, 10, none⟩ (.slice A4 p.f2.f4.length c4))) := ⟨HS5.out⟩
          have HV6 : Aside0 (Kd.R kLine 118 (((((((w4.setCell ⟨w.heap.size, 4, none⟩ (.int .i64 p.f0)).setCell ⟨w.heap.size, 5, none⟩ (.int .i64 p.f1)).setCell ⟨w.heap.size, 6, none⟩ (.int .i64 p.f2.f0)).setCell ⟨w.heap.size, 7, none⟩ (.string p.f2.f1)).setCell ⟨w.heap.size, 8, none⟩ (.int .i64 p.f2.f2)).setCell ⟨w.heap.size, 9, none⟩ (.int .i64 p.f2.f3)).setCell ⟨w.heap.size, 10, none⟩ (.slice A4 p.f2.f4.length c4)) w.heap.size (fun j => j ≠ w.heap.size) (.slice A4 p.f2.f4.length c4) p.f2.f4) := ⟨Kd.R_grown (row := some w.heap.size) (Kd.R_mono (Kd.R_types HV.out HS4.out.box (by decide)) (fun j hj => hj.2)) (grown_set (grown_set (grown_set (grown_set (grown_set (grown_set (grown_set (World.grownBy.refl w4 _)))))))) (fun j hj e => hj (Option.some.inj e))⟩
          clear q4 q5 q6 q7 q8 q9 q10 f4 f5 f6 f7 f8 f9 f10 HS5 HS4 HV hcut hwm
          generalize ((((((w4.setCell ⟨w.heap.size, 4, none⟩ (.int .i64 p.f0)).setCell ⟨w.heap.size, 5, none⟩ (.int .i64 p.f1)).setCell ⟨w.heap.size, 6, none⟩ (.int .i64 p.f2.f0)).setCell ⟨w.heap.size, 7, none⟩ (.string p.f2.f1)).setCell ⟨w.heap.size, 8, none⟩ (.int .i64 p.f2.f2)).setCell ⟨w.heap.size, 9, none⟩ (.int .i64 p.f2.f3)).setCell ⟨w.heap.size, 10, none⟩ (.slice A4 p.f2.f4.length c4) = W5 at *
          by_cases hep : ep = 0
          · subst hep
            obtain ⟨_, hn1, hr1⟩ := Kd.R_reads' (Kd.R_below HV6.out (below_drew (Below.refl W5.heap.size W5)))
            have hlow := HS6.out.low.trans ((below_drew (Below.refl W5.heap.size W5)).mono HS6.out.low.size)
            have hck := record_Check W5.drew A4 none c4 0 ⟨r0, r1, r2, r3, p, []⟩ (HG.out.keep hlow HG.out.lt) (HH.out.keep hlow HH.out.lt) hr1 hn1 (Kd.C_nil _ _) (Nat.le_refl _)
            have hz : ((0 : Int) == 0) = true := rfl
            by_cases hre : recE (⟨r0, r1, r2, r3, p, []⟩ : Rec) = 0
            · rw [hre] at hck
              have HCK := Aside0.mk hck
              have HPO : Aside0 (pRec l = some ⟨r0, r1, r2, r3, p, []⟩) := ⟨by rw [HP.out, if_pos ⟨rfl, hre⟩]⟩
              clear HP hre hck hn1 hr1 hlow
              have hS := RBX.of HS6.out
              refine wp_region_held_drew (S := fun w' => RBX w w.heap.size g ⟨r0, r1, r2, r3, p, []⟩ (.slice A4 p.f2.f4.length c4) (.slice none 0 0) (y, 0) l w') (by kernel_rfl) hS.drew (fun hHeld => ?_)
              refine takeH (i := 0) (some 55) (v := ?_) rfl rfl (by kernel_rfl) (by kernel_rfl) (by kernel_rfl) (fun _ _ _ h => h) (Or.inl ⟨by kernel_rfl, ?_⟩) (by assumption) ?_
              rotate_left
              · (rintro w' ⟨s0, s1, s2, s3, s4, s5, s6, s7, s8, s9, s10, s11, t0, t1, t2, t3, t4, t5, t6, t7, t8, t9, t10, t11, s⟩; go_simp; first | done | with_reducible rfl)
              simp only [Act.put, List.setIfInBounds_toArray, List.set_cons_zero, List.set_cons_succ]
              refine takeH (i := 1) (some 56) (v := ?_) rfl rfl (by kernel_rfl) (by kernel_rfl) (by kernel_rfl) (fun _ _ _ h => h) (Or.inl ⟨by kernel_rfl, ?_⟩) (by assumption) ?_
              rotate_left
              · (rintro w' ⟨s0, s1, s2, s3, s4, s5, s6, s7, s8, s9, s10, s11, t0, t1, t2, t3, t4, t5, t6, t7, t8, t9, t10, t11, s⟩; go_simp; first | done | with_reducible rfl)
              simp only [Act.put, List.setIfInBounds_toArray, List.set_cons_zero, List.set_cons_succ]
              refine takeH (i := 2) (some 57) (v := ?_) rfl rfl (by kernel_rfl) (by kernel_rfl) (by kernel_rfl) (fun _ _ _ h => h) (Or.inl ⟨by kernel_rfl, ?_⟩) (by assumption) ?_
              rotate_left
              · (rintro w' ⟨s0, s1, s2, s3, s4, s5, s6, s7, s8, s9, s10, s11, t0, t1, t2, t3, t4, t5, t6, t7, t8, t9, t10, t11, s⟩; go_simp; first | done | with_reducible rfl)
              simp only [Act.put, List.setIfInBounds_toArray, List.set_cons_zero, List.set_cons_succ]
              refine takeH (i := 3) (some 58) (v := ?_) rfl rfl (by kernel_rfl) (by kernel_rfl) (by kernel_rfl) (fun _ _ _ h => h) (Or.inl ⟨by kernel_rfl, ?_⟩) (by assumption) ?_
              rotate_left
              · (rintro w' ⟨s0, s1, s2, s3, s4, s5, s6, s7, s8, s9, s10, s11, t0, t1, t2, t3, t4, t5, t6, t7, t8, t9, t10, t11, s⟩; go_simp; first | done | with_reducible rfl)
              simp only [Act.put, List.setIfInBounds_toArray, List.set_cons_zero, List.set_cons_succ]
              refine takeH (i := 4) (some 59) (v := ?_) rfl rfl (by kernel_rfl) (by kernel_rfl) (by kernel_rfl) (fun _ _ _ h => h) (Or.inl ⟨by kernel_rfl, ?_⟩) (by assumption) ?_
              rotate_left
              · (rintro w' ⟨s0, s1, s2, s3, s4, s5, s6, s7, s8, s9, s10, s11, t0, t1, t2, t3, t4, t5, t6, t7, t8, t9, t10, t11, s⟩; go_simp; first | done | with_reducible rfl)
              simp only [Act.put, List.setIfInBounds_toArray, List.set_cons_zero, List.set_cons_succ]
              refine wpAnyH_ready (rs := [5]) (by kernel_rfl) (by simp) ?_
              refine AllReadyH.cons rfl (fun K hK => ?_) AllReadyH.nil
              go_simp
              refine HCK.out.mono ?_; rintro e w7 ⟨rfl, hb⟩
              refine hK.out _ _ ?_ (fun hHeld => ?_)
              · exact RBX.next hb (RBX.drew hS)
              clear hK K
              try simp only [Act.put, List.setIfInBounds_toArray, List.set_cons_zero, List.set_cons_succ]
              refine takeH (i := 6) (some 61) (v := ?_) rfl rfl (by kernel_rfl) (by kernel_rfl) (by kernel_rfl) (fun _ _ _ h => h) (Or.inl ⟨by kernel_rfl, ?_⟩) (by assumption) ?_
              rotate_left
              · (rintro w' ⟨s0, s1, s2, s3, s4, s5, s6, s7, s8, s9, s10, s11, t0, t1, t2, t3, t4, t5, t6, t7, t8, t9, t10, t11, s⟩; go_simp; first | done | with_reducible rfl)
              simp only [Act.put, List.setIfInBounds_toArray, List.set_cons_zero, List.set_cons_succ]
              refine takeH (i := 7) (some 62) (v := ?_) rfl rfl (by kernel_rfl) (by kernel_rfl) (by kernel_rfl) (fun _ _ _ h => h) (Or.inl ⟨by kernel_rfl, ?_⟩) (by assumption) ?_
              rotate_left
              · (rintro w' ⟨s0, s1, s2, s3, s4, s5, s6, s7, s8, s9, s10, s11, t0, t1, t2, t3, t4, t5, t6, t7, t8, t9, t10, t11, s⟩; go_simp; first | done | with_reducible rfl)
              simp only [Act.put, List.setIfInBounds_toArray, List.set_cons_zero, List.set_cons_succ]
              have HS7 := Aside0.mk (RBX.st hHeld)
              have HV7 := Aside0.mk (Kd.R_below (Kd.R_below HV6.out (below_drew (Below.refl _ _))) hb)
              refine wpAnyH_ready (rs := [8]) (by kernel_rfl) (by simp) ?_
              refine AllReadyH.cons rfl (fun K hK => ?_) AllReadyH.nil
              clear hS hHeld
              have hS := RBX.of HS7.out
              obtain ⟨s0, s1, s2, s3, s4, s5, s6, s7, s8, s9, s10, s11, t0, t1, t2, t3, t4, t5, t6, t7, t8, t9, t10, t11, _⟩ := hS
              go_simp
              refine hK.out _ _ ?_ (fun hHeld => ?_)
              · exact RBX.of HS7.out.same
              clear hK K
              try simp only [Act.put, List.setIfInBounds_toArray, List.set_cons_zero, List.set_cons_succ]
              refine takeH (i := 9) (some 3) (v := ?_) rfl rfl (by kernel_rfl) (by kernel_rfl) (by kernel_rfl) (fun _ _ _ h => h) (Or.inl ⟨by kernel_rfl, ?_⟩) (by assumption) ?_
              rotate_left
              · (rintro w' ⟨s0, s1, s2, s3, s4, s5, s6, s7, s8, s9, s10, s11, t0, t1, t2, t3, t4, t5, t6, t7, t8, t9, t10, t11, s⟩; go_simp; first | done | with_reducible rfl)
              simp only [Act.put, List.setIfInBounds_toArray, List.set_cons_zero, List.set_cons_succ]
              refine wpAnyH_done (by kernel_rfl) ?_ _
              have HSf := Aside0.mk HS7.out.same
              clear s0 s1 s2 s3 s4 s5 s6 s7 s8 s9 s10 s11 t0 t1 t2 t3 t4 t5 t6 t7 t8 t9 t10 t11
              go_wp2_with fail
              refine bodyPost_ret (ret_rec (r := ⟨r0, r1, r2, r3, p, []⟩) HSf.out.box rfl rfl) rfl ⟨⟨r0, r1, r2, r3, p, []⟩, .slice A4 p.f2.f4.length c4, .slice none 0 0, by rw [HPO.out]; rfl, ?_, Kd.R_nil _ _ _ _ _, fun y hy => (by rw [HPO.out] at hy; cases hy; rfl), HSf.out.low⟩
              exact Kd.R_mono (Kd.R_grown (row := some w.heap.size) HV7.out (put12_grown _ _ _ _ _ _ _ _ _ _ _ _ _ _) (fun j hj e => hj (Option.some.inj e))) (fun _ _ => trivial)
            · have hre2 : recE (⟨r0, r1, r2, r3, p, []⟩ : Rec) = 2 := by
                unfold recE at hre ⊢
                split at hre
                · exact absurd rfl hre
                · rename_i h; rw [if_neg h]
              rw [hre2] at hck
              have HCK := Aside0.mk hck
              have HPO : Aside0 (pRec l = none) := ⟨by rw [HP.out, if_neg (fun h => hre h.2)]⟩
              clear HP hre hre2 hck hn1 hr1 hlow
              have hS := RBX.of HS6.out
              refine wp_region_held_drew (S := fun w' => RBX w w.heap.size g ⟨r0, r1, r2, r3, p, []⟩ (.slice A4 p.f2.f4.length c4) (.slice none 0 0) (y, 0) l w') (by kernel_rfl) hS.drew (fun hHeld => ?_)
              refine takeH (i := 0) (some 55) (v := ?_) rfl rfl (by kernel_rfl) (by kernel_rfl) (by kernel_rfl) (fun _ _ _ h => h) (Or.inl ⟨by kernel_rfl, ?_⟩) (by assumption) ?_
              rotate_left
              · (rintro w' ⟨s0, s1, s2, s3, s4, s5, s6, s7, s8, s9, s10, s11, t0, t1, t2, t3, t4, t5, t6, t7, t8, t9, t10, t11, s⟩; go_simp; first | done | with_reducible rfl)
              simp only [Act.put, List.setIfInBounds_toArray, List.set_cons_zero, List.set_cons_succ]
              refine takeH (i := 1) (some 56) (v := ?_) rfl rfl (by kernel_rfl) (by kernel_rfl) (by kernel_rfl) (fun _ _ _ h => h) (Or.inl ⟨by kernel_rfl, ?_⟩) (by assumption) ?_
              rotate_left
              · (rintro w' ⟨s0, s1, s2, s3, s4, s5, s6, s7, s8, s9, s10, s11, t0, t1, t2, t3, t4, t5, t6, t7, t8, t9, t10, t11, s⟩; go_simp; first | done | with_reducible rfl)
              simp only [Act.put, List.setIfInBounds_toArray, List.set_cons_zero, List.set_cons_succ]
              refine takeH (i := 2) (some 57) (v := ?_) rfl rfl (by kernel_rfl) (by kernel_rfl) (by kernel_rfl) (fun _ _ _ h => h) (Or.inl ⟨by kernel_rfl, ?_⟩) (by assumption) ?_
              rotate_left
              · (rintro w' ⟨s0, s1, s2, s3, s4, s5, s6, s7, s8, s9, s10, s11, t0, t1, t2, t3, t4, t5, t6, t7, t8, t9, t10, t11, s⟩; go_simp; first | done | with_reducible rfl)
              simp only [Act.put, List.setIfInBounds_toArray, List.set_cons_zero, List.set_cons_succ]
              refine takeH (i := 3) (some 58) (v := ?_) rfl rfl (by kernel_rfl) (by kernel_rfl) (by kernel_rfl) (fun _ _ _ h => h) (Or.inl ⟨by kernel_rfl, ?_⟩) (by assumption) ?_
              rotate_left
              · (rintro w' ⟨s0, s1, s2, s3, s4, s5, s6, s7, s8, s9, s10, s11, t0, t1, t2, t3, t4, t5, t6, t7, t8, t9, t10, t11, s⟩; go_simp; first | done | with_reducible rfl)
              simp only [Act.put, List.setIfInBounds_toArray, List.set_cons_zero, List.set_cons_succ]
              refine takeH (i := 4) (some 59) (v := ?_) rfl rfl (by kernel_rfl) (by kernel_rfl) (by kernel_rfl) (fun _ _ _ h => h) (Or.inl ⟨by kernel_rfl, ?_⟩) (by assumption) ?_
              rotate_left
              · (rintro w' ⟨s0, s1, s2, s3, s4, s5, s6, s7, s8, s9, s10, s11, t0, t1, t2, t3, t4, t5, t6, t7, t8, t9, t10, t11, s⟩; go_simp; first | done | with_reducible rfl)
              simp only [Act.put, List.setIfInBounds_toArray, List.set_cons_zero, List.set_cons_succ]
              refine wpAnyH_ready (rs := [5]) (by kernel_rfl) (by simp) ?_
              refine AllReadyH.cons rfl (fun K hK => ?_) AllReadyH.nil
              go_simp
              refine HCK.out.mono ?_; rintro e w7 ⟨rfl, hb⟩
              refine hK.out _ _ ?_ (fun hHeld => ?_)
              · exact RBX.next hb (RBX.drew hS)
              clear hK K
              try simp only [Act.put, List.setIfInBounds_toArray, List.set_cons_zero, List.set_cons_succ]
              refine takeH (i := 6) (some 61) (v := ?_) rfl rfl (by kernel_rfl) (by kernel_rfl) (by kernel_rfl) (fun _ _ _ h => h) (Or.inl ⟨by kernel_rfl, ?_⟩) (by assumption) ?_
              rotate_left
              · (rintro w' ⟨s0, s1, s2, s3, s4, s5, s6, s7, s8, s9, s10, s11, t0, t1, t2, t3, t4, t5, t6, t7, t8, t9, t10, t11, s⟩; go_simp; first | done | with_reducible rfl)
              simp only [Act.put, List.setIfInBounds_toArray, List.set_cons_zero, List.set_cons_succ]
              refine takeH (i := 7) (some 62) (v := ?_) rfl rfl (by kernel_rfl) (by kernel_rfl) (by kernel_rfl) (fun _ _ _ h => h) (Or.inl ⟨by kernel_rfl, ?_⟩) (by assumption) ?_
              rotate_left
              · (rintro w' ⟨s0, s1, s2, s3, s4, s5, s6, s7, s8, s9, s10, s11, t0, t1, t2, t3, t4, t5, t6, t7, t8, t9, t10, t11, s⟩; go_simp; first | done | with_reducible rfl)
              simp only [Act.put, List.setIfInBounds_toArray, List.set_cons_zero, List.set_cons_succ]
              have HS7 := Aside0.mk (RBX.st hHeld)
              have HV7 := Aside0.mk (Kd.R_below (Kd.R_below HV6.out (below_drew (Below.refl _ _))) hb)
              refine wpAnyH_ready (rs := [8]) (by kernel_rfl) (by simp) ?_
              refine AllReadyH.cons rfl (fun K hK => ?_) AllReadyH.nil
              clear hS hHeld
              have hS := RBX.of HS7.out
              obtain ⟨s0, s1, s2, s3, s4, s5, s6, s7, s8, s9, s10, s11, t0, t1, t2, t3, t4, t5, t6, t7, t8, t9, t10, t11, _⟩ := hS
              go_simp
              refine hK.out _ _ ?_ (fun hHeld => ?_)
              · exact RBX.of HS7.out.same
              clear hK K
              try simp only [Act.put, List.setIfInBounds_toArray, List.set_cons_zero, List.set_cons_succ]
              refine takeH (i := 9) (some 3) (v := ?_) rfl rfl (by kernel_rfl) (by kernel_rfl) (by kernel_rfl) (fun _ _ _ h => h) (Or.inl ⟨by kernel_rfl, ?_⟩) (by assumption) ?_
              rotate_left
              · (rintro w' ⟨s0, s1, s2, s3, s4, s5, s6, s7, s8, s9, s10, s11, t0, t1, t2, t3, t4, t5, t6, t7, t8, t9, t10, t11, s⟩; go_simp; first | done | with_reducible rfl)
              simp only [Act.put, List.setIfInBounds_toArray, List.set_cons_zero, List.set_cons_succ]
              refine wpAnyH_done (by kernel_rfl) ?_ _
              have HSf := Aside0.mk HS7.out.same
              clear s0 s1 s2 s3 s4 s5 s6 s7 s8 s9 s10 s11 t0 t1 t2 t3 t4 t5 t6 t7 t8 t9 t10 t11
              go_wp2_with fail
              refine bodyPost_ret (ret_rec (r := ⟨r0, r1, r2, r3, p, []⟩) HSf.out.box rfl rfl) rfl ⟨⟨r0, r1, r2, r3, p, []⟩, .slice A4 p.f2.f4.length c4, .slice none 0 0, by rw [HPO.out]; rfl, ?_, Kd.R_nil _ _ _ _ _, fun y hy => (by rw [HPO.out] at hy; cases hy), HSf.out.low⟩
              exact Kd.R_mono (Kd.R_grown (row := some w.heap.size) HV7.out (put12_grown _ _ _ _ _ _ _ _ _ _ _ _ _ _) (fun j hj e => hj (Option.some.inj e))) (fun _ _ => trivial)
          · have hz : (ep == 0) = false := beq_eq_false_iff_ne.2 hep
            have HPO : Aside0 (pRec l = none) := ⟨by rw [HP.out, if_neg (fun h => hep h.1)]⟩
            clear HP hep
            have hS := RBX.of HS6.out
            refine wp_region_held_drew (S := fun w' => RBX w w.heap.size g ⟨r0, r1, r2, r3, p, []⟩ (.slice A4 p.f2.f4.length c4) (.slice none 0 0) (y, 0) l w') (by kernel_rfl) hS.drew (fun hHeld => ?_)
            refine takeH (i := 0) (some 55) (v := ?_) rfl rfl (by kernel_rfl) (by kernel_rfl) (by kernel_rfl) (fun _ _ _ h => h) (Or.inl ⟨by kernel_rfl, ?_⟩) (by assumption) ?_
            rotate_left
            · (rintro w' ⟨s0, s1, s2, s3, s4, s5, s6, s7, s8, s9, s10, s11, t0, t1, t2, t3, t4, t5, t6, t7, t8, t9, t10, t11, s⟩; go_simp; first | done | with_reducible rfl)
            simp only [Act.put, List.setIfInBounds_toArray, List.set_cons_zero, List.set_cons_succ]
            refine takeH (i := 1) (some 56) (v := ?_) rfl rfl (by kernel_rfl) (by kernel_rfl) (by kernel_rfl) (fun _ _ _ h => h) (Or.inl ⟨by kernel_rfl, ?_⟩) (by assumption) ?_
            rotate_left
            · (rintro w' ⟨s0, s1, s2, s3, s4, s5, s6, s7, s8, s9, s10, s11, t0, t1, t2, t3, t4, t5, t6, t7, t8, t9, t10, t11, s⟩; go_simp; first | done | with_reducible rfl)
            simp only [Act.put, List.setIfInBounds_toArray, List.set_cons_zero, List.set_cons_succ]
            refine takeH (i := 2) (some 57) (v := ?_) rfl rfl (by kernel_rfl) (by kernel_rfl) (by kernel_rfl) (fun _ _ _ h => h) (Or.inl ⟨by kernel_rfl, ?_⟩) (by assumption) ?_
            rotate_left
            · (rintro w' ⟨s0, s1, s2, s3, s4, s5, s6, s7, s8, s9, s10, s11, t0, t1, t2, t3, t4, t5, t6, t7, t8, t9, t10, t11, s⟩; go_simp; first | done | with_reducible rfl)
            simp only [Act.put, List.setIfInBounds_toArray, List.set_cons_zero, List.set_cons_succ]
            refine takeH (i := 3) (some 58) (v := ?_) rfl rfl (by kernel_rfl) (by kernel_rfl) (by kernel_rfl) (fun _ _ _ h => h) (Or.inl ⟨by kernel_rfl, ?_⟩) (by assumption) ?_
            rotate_left
            · (rintro w' ⟨s0, s1, s2, s3, s4, s5, s6, s7, s8, s9, s10, s11, t0, t1, t2, t3, t4, t5, t6, t7, t8, t9, t10, t11, s⟩; go_simp; first | done | with_reducible rfl)
            simp only [Act.put, List.setIfInBounds_toArray, List.set_cons_zero, List.set_cons_succ]
            refine skipH (i := 4) (some 59) rfl rfl (by kernel_rfl) (by kernel_rfl) (by kernel_rfl) (fun _ _ _ h => h) (by kernel_rfl) (by assumption) ?_
            simp only [Act.put, List.setIfInBounds_toArray, List.set_cons_zero, List.set_cons_succ]
            refine skipH (i := 5) (some 60) rfl rfl (by kernel_rfl) (by kernel_rfl) (by kernel_rfl) (fun _ _ _ h => h) (by kernel_rfl) (by assumption) ?_
            simp only [Act.put, List.setIfInBounds_toArray, List.set_cons_zero, List.set_cons_succ]
            refine skipH (i := 6) (some 61) rfl rfl (by kernel_rfl) (by kernel_rfl) (by kernel_rfl) (fun _ _ _ h => h) (by kernel_rfl) (by assumption) ?_
            simp only [Act.put, List.setIfInBounds_toArray, List.set_cons_zero, List.set_cons_succ]
            refine takeH (i := 7) (some 62) (v := ?_) rfl rfl (by kernel_rfl) (by kernel_rfl) (by kernel_rfl) (fun _ _ _ h => h) (Or.inl ⟨by kernel_rfl, ?_⟩) (by assumption) ?_
            rotate_left
            · (rintro w' ⟨s0, s1, s2, s3, s4, s5, s6, s7, s8, s9, s10, s11, t0, t1, t2, t3, t4, t5, t6, t7, t8, t9, t10, t11, s⟩; go_simp; first | done | with_reducible rfl)
            simp only [Act.put, List.setIfInBounds_toArray, List.set_cons_zero, List.set_cons_succ]
            refine wpAnyH_ready (rs := [8]) (by kernel_rfl) (by simp) ?_
            refine AllReadyH.cons rfl (fun K hK => ?_) AllReadyH.nil
            obtain ⟨s0, s1, s2, s3, s4, s5, s6, s7, s8, s9, s10, s11, t0, t1, t2, t3, t4, t5, t6, t7, t8, t9, t10, t11, _⟩ := hS
            go_simp
            refine hK.out _ _ ?_ (fun hHeld => ?_)
            · exact RBX.drew (RBX.of HS6.out.same)
            clear hK K
            try simp only [Act.put, List.setIfInBounds_toArray, List.set_cons_zero, List.set_cons_succ]
            refine takeH (i := 9) (some 3) (v := ?_) rfl rfl (by kernel_rfl) (by kernel_rfl) (by kernel_rfl) (fun _ _ _ h => h) (Or.inl ⟨by kernel_rfl, ?_⟩) (by assumption) ?_
            rotate_left
            · (rintro w' ⟨s0, s1, s2, s3, s4, s5, s6, s7, s8, s9, s10, s11, t0, t1, t2, t3, t4, t5, t6, t7, t8, t9, t10, t11, s⟩; go_simp; first | done | with_reducible rfl)
            simp only [Act.put, List.setIfInBounds_toArray, List.set_cons_zero, List.set_cons_succ]
            refine wpAnyH_done (by kernel_rfl) ?_ _
            have HSf := Aside0.mk (HS6.out.same.below (below_drew (Below.refl _ _)))
            clear s0 s1 s2 s3 s4 s5 s6 s7 s8 s9 s10 s11 t0 t1 t2 t3 t4 t5 t6 t7 t8 t9 t10 t11
            go_wp2_with fail
            refine bodyPost_ret (ret_rec (r := ⟨r0, r1, r2, r3, p, []⟩) HSf.out.box rfl rfl) rfl ⟨⟨r0, r1, r2, r3, p, []⟩, .slice A4 p.f2.f4.length c4, .slice none 0 0, by rw [HPO.out]; rfl, ?_, Kd.R_nil _ _ _ _ _, fun y hy => (by rw [HPO.out] at hy; cases hy), HSf.out.low⟩
            exact Kd.R_mono (Kd.R_below (Kd.R_grown (row := some w.heap.size) HV6.out (put12_grown _ _ _ _ _ _ _ _ _ _ _ _ _ _) (fun j hj e => hj (Option.some.inj e))) (below_drew (Below.refl _ _))) (fun _ _ => trivial)
      case rest =>
        clear HS hp2
        obtain ⟨rows, u5, x', er, rfl, HS, HV, HP⟩ := hcut
        obtain ⟨ya, ea⟩ := x'
        obtain ⟨B5, d5, e5⟩ := Kd.R_slice HV.out
        subst e5
        have hend := rd_End wc.drew g ya ea (HS.out.rd.below (below_drew (Below.refl _ _)))
        by_cases her : er = 0
        · subst her
          have hz0 : ((0 : Int) == 0) = true := rfl
          by_cases hen : rEnd ya ea = 0
          · rw [hen] at hend
            have HEND := Aside0.mk hend
            obtain ⟨_, hn1, hr1⟩ := Kd.R_reads' (Kd.R_below HV.out (below_drew (Below.refl wc.heap.size wc)))
            have hlow := HS.out.low.trans ((below_drew (Below.refl wc.heap.size wc)).mono HS.out.low.size)
            have hck := record_Check wc.drew none B5 0 d5 ⟨r0, r1, r2, r3, zEnt, rows⟩ (HG.out.keep hlow HG.out.lt) (HH.out.keep hlow HH.out.lt) (Kd.C_nil _ _) (Nat.le_refl _) hr1 hn1
            by_cases hre : recE (⟨r0, r1, r2, r3, zEnt, rows⟩ : Rec) = 0
            · rw [hre] at hck
              have HCK := Aside0.mk hck
              have HPO : Aside0 (pRec l = some ⟨r0, r1, r2, r3, zEnt, rows⟩) := ⟨by rw [HP.out, if_pos ⟨rfl, hen, hre⟩]⟩
              clear HP hre hck hn1 hr1 hlow hen hend
              go_upto_region 18 with fail
              have hS := RBX.of HS.out
              refine wp_region_held_drew (S := fun w' => RBX w w.heap.size g ⟨r0, r1, r2, r3, zEnt, rows⟩ (.slice none 0 0) (.slice B5 rows.length d5) (ya, ea) l w') (by kernel_rfl) hS.drew (fun hHeld => ?_)
              refine takeH (i := 0) (some 74) (v := ?_) rfl rfl (by kernel_rfl) (by kernel_rfl) (by kernel_rfl) (fun _ _ _ h => h) (Or.inl ⟨by kernel_rfl, ?_⟩) (by assumption) ?_
              rotate_left
              · (rintro w' ⟨s0, s1, s2, s3, s4, s5, s6, s7, s8, s9, s10, s11, t0, t1, t2, t3, t4, t5, t6, t7, t8, t9, t10, t11, s⟩; go_simp; first | done | with_reducible rfl)
              simp only [Act.put, List.setIfInBounds_toArray, List.set_cons_zero, List.set_cons_succ]
              refine takeH (i := 1) (some 75) (v := ?_) rfl rfl (by kernel_rfl) (by kernel_rfl) (by kernel_rfl) (fun _ _ _ h => h) (Or.inl ⟨by kernel_rfl, ?_⟩) (by assumption) ?_
              rotate_left
              · (rintro w' ⟨s0, s1, s2, s3, s4, s5, s6, s7, s8, s9, s10, s11, t0, t1, t2, t3, t4, t5, t6, t7, t8, t9, t10, t11, s⟩; go_simp; first | done | with_reducible rfl)
              simp only [Act.put, List.setIfInBounds_toArray, List.set_cons_zero, List.set_cons_succ]
              refine takeH (i := 2) (some 76) (v := ?_) rfl rfl (by kernel_rfl) (by kernel_rfl) (by kernel_rfl) (fun _ _ _ h => h) (Or.inl ⟨by kernel_rfl, ?_⟩) (by assumption) ?_
              rotate_left
              · (rintro w' ⟨s0, s1, s2, s3, s4, s5, s6, s7, s8, s9, s10, s11, t0, t1, t2, t3, t4, t5, t6, t7, t8, t9, t10, t11, s⟩; go_simp; first | done | with_reducible rfl)
              simp only [Act.put, List.setIfInBounds_toArray, List.set_cons_zero, List.set_cons_succ]
              refine takeH (i := 3) (some 77) (v := ?_) rfl rfl (by kernel_rfl) (by kernel_rfl) (by kernel_rfl) (fun _ _ _ h => h) (Or.inl ⟨by kernel_rfl, ?_⟩) (by assumption) ?_
              rotate_left
              · (rintro w' ⟨s0, s1, s2, s3, s4, s5, s6, s7, s8, s9, s10, s11, t0, t1, t2, t3, t4, t5, t6, t7, t8, t9, t10, t11, s⟩; go_simp; first | done | with_reducible rfl)
              simp only [Act.put, List.setIfInBounds_toArray, List.set_cons_zero, List.set_cons_succ]
              refine takeH (i := 4) (some 78) (v := ?_) rfl rfl (by kernel_rfl) (by kernel_rfl) (by kernel_rfl) (fun _ _ _ h => h) (Or.inl ⟨by kernel_rfl, ?_⟩) (by assumption) ?_
              rotate_left
              · (rintro w' ⟨s0, s1, s2, s3, s4, s5, s6, s7, s8, s9, s10, s11, t0, t1, t2, t3, t4, t5, t6, t7, t8, t9, t10, t11, s⟩; go_simp; first | done | with_reducible rfl)
              simp only [Act.put, List.setIfInBounds_toArray, List.set_cons_zero, List.set_cons_succ]
              refine wpAnyH_ready (rs := [5]) (by kernel_rfl) (by simp) ?_
              refine AllReadyH.cons rfl (fun K hK => ?_) AllReadyH.nil
              go_simp
              refine HEND.out.mono ?_; rintro e w7 ⟨rfl, rfl⟩
              refine hK.out _ _ ?_ (fun hHeld => ?_)
              · assumption
              clear hK K
              try simp only [Act.put, List.setIfInBounds_toArray, List.set_cons_zero, List.set_cons_succ]
              refine takeH (i := 6) (some 80) (v := ?_) rfl rfl (by kernel_rfl) (by kernel_rfl) (by kernel_rfl) (fun _ _ _ h => h) (Or.inl ⟨by kernel_rfl, ?_⟩) (by assumption) ?_
              rotate_left
              · (rintro w' ⟨s0, s1, s2, s3, s4, s5, s6, s7, s8, s9, s10, s11, t0, t1, t2, t3, t4, t5, t6, t7, t8, t9, t10, t11, s⟩; go_simp; first | done | with_reducible rfl)
              simp only [Act.put, List.setIfInBounds_toArray, List.set_cons_zero, List.set_cons_succ]
              refine takeH (i := 7) (some 81) (v := ?_) rfl rfl (by kernel_rfl) (by kernel_rfl) (by kernel_rfl) (fun _ _ _ h => h) (Or.inl ⟨by kernel_rfl, ?_⟩) (by assumption) ?_
              rotate_left
              · (rintro w' ⟨s0, s1, s2, s3, s4, s5, s6, s7, s8, s9, s10, s11, t0, t1, t2, t3, t4, t5, t6, t7, t8, t9, t10, t11, s⟩; go_simp; first | done | with_reducible rfl)
              simp only [Act.put, List.setIfInBounds_toArray, List.set_cons_zero, List.set_cons_succ]
              refine takeH (i := 8) (some 82) (v := ?_) rfl rfl (by kernel_rfl) (by kernel_rfl) (by kernel_rfl) (fun _ _ _ h => h) (Or.inl ⟨by kernel_rfl, ?_⟩) (by assumption) ?_
              rotate_left
              · (rintro w' ⟨s0, s1, s2, s3, s4, s5, s6, s7, s8, s9, s10, s11, t0, t1, t2, t3, t4, t5, t6, t7, t8, t9, t10, t11, s⟩; go_simp; first | done | with_reducible rfl)
              simp only [Act.put, List.setIfInBounds_toArray, List.set_cons_zero, List.set_cons_succ]
              refine takeH (i := 9) (some 83) (v := ?_) rfl rfl (by kernel_rfl) (by kernel_rfl) (by kernel_rfl) (fun _ _ _ h => h) (Or.inl ⟨by kernel_rfl, ?_⟩) (by assumption) ?_
              rotate_left
              · (rintro w' ⟨s0, s1, s2, s3, s4, s5, s6, s7, s8, s9, s10, s11, t0, t1, t2, t3, t4, t5, t6, t7, t8, t9, t10, t11, s⟩; go_simp; first | done | with_reducible rfl)
              simp only [Act.put, List.setIfInBounds_toArray, List.set_cons_zero, List.set_cons_succ]
              refine wpAnyH_ready (rs := [10]) (by kernel_rfl) (by simp) ?_
              refine AllReadyH.cons rfl (fun K hK => ?_) AllReadyH.nil
              go_simp
              refine HCK.out.mono ?_; rintro e w8 ⟨rfl, hb⟩
              refine hK.out _ _ ?_ (fun hHeld => ?_)
              · exact RBX.next hb (RBX.drew hS)
              clear hK K
              try simp only [Act.put, List.setIfInBounds_toArray, List.set_cons_zero, List.set_cons_succ]
              refine takeH (i := 11) (some 85) (v := ?_) rfl rfl (by kernel_rfl) (by kernel_rfl) (by kernel_rfl) (fun _ _ _ h => h) (Or.inl ⟨by kernel_rfl, ?_⟩) (by assumption) ?_
              rotate_left
              · (rintro w' ⟨s0, s1, s2, s3, s4, s5, s6, s7, s8, s9, s10, s11, t0, t1, t2, t3, t4, t5, t6, t7, t8, t9, t10, t11, s⟩; go_simp; first | done | with_reducible rfl)
              simp only [Act.put, List.setIfInBounds_toArray, List.set_cons_zero, List.set_cons_succ]
              refine takeH (i := 12) (some 86) (v := ?_) rfl rfl (by kernel_rfl) (by kernel_rfl) (by kernel_rfl) (fun _ _ _ h => h) (Or.inl ⟨by kernel_rfl, ?_⟩) (by assumption) ?_
              rotate_left
              · (rintro w' ⟨s0, s1, s2, s3, s4, s5, s6, s7, s8, s9, s10, s11, t0, t1, t2, t3, t4, t5, t6, t7, t8, t9, t10, t11, s⟩; go_simp; first | done | with_reducible rfl)
              simp only [Act.put, List.setIfInBounds_toArray, List.set_cons_zero, List.set_cons_succ]
              have HS7 := Aside0.mk (RBX.st hHeld)
              have HV7 := Aside0.mk (Kd.R_below (Kd.R_below HV.out (below_drew (Below.refl _ _))) hb)
              refine wpAnyH_ready (rs := [13]) (by kernel_rfl) (by simp) ?_
              refine AllReadyH.cons rfl (fun K hK => ?_) AllReadyH.nil
              clear hS hHeld
              have hS := RBX.of HS7.out
              obtain ⟨s0, s1, s2, s3, s4, s5, s6, s7, s8, s9, s10, s11, t0, t1, t2, t3, t4, t5, t6, t7, t8, t9, t10, t11, _⟩ := hS
              go_simp
              refine hK.out _ _ ?_ (fun hHeld => ?_)
              · exact RBX.of HS7.out.same
              clear hK K
              try simp only [Act.put, List.setIfInBounds_toArray, List.set_cons_zero, List.set_cons_succ]
              refine takeH (i := 14) (some 3) (v := ?_) rfl rfl (by kernel_rfl) (by kernel_rfl) (by kernel_rfl) (fun _ _ _ h => h) (Or.inl ⟨by kernel_rfl, ?_⟩) (by assumption) ?_
              rotate_left
              · (rintro w' ⟨s0, s1, s2, s3, s4, s5, s6, s7, s8, s9, s10, s11, t0, t1, t2, t3, t4, t5, t6, t7, t8, t9, t10, t11, s⟩; go_simp; first | done | with_reducible rfl)
              simp only [Act.put, List.setIfInBounds_toArray, List.set_cons_zero, List.set_cons_succ]
              refine wpAnyH_done (by kernel_rfl) ?_ _
              have HSf := Aside0.mk HS7.out.same
              clear s0 s1 s2 s3 s4 s5 s6 s7 s8 s9 s10 s11 t0 t1 t2 t3 t4 t5 t6 t7 t8 t9 t10 t11
              go_wp2_with fail
              refine bodyPost_ret (ret_rec (r := ⟨r0, r1, r2, r3, zEnt, rows⟩) HSf.out.box rfl rfl) rfl ⟨⟨r0, r1, r2, r3, zEnt, rows⟩, .slice none 0 0, .slice B5 rows.length d5, by rw [HPO.out]; rfl, Kd.R_nil _ _ _ _ _, ?_, fun y hy => (by rw [HPO.out] at hy; cases hy; rfl), HSf.out.low⟩
              exact Kd.R_mono (Kd.R_grown (row := some w.heap.size) HV7.out (put12_grown _ _ _ _ _ _ _ _ _ _ _ _ _ _) (fun j hj e => hj (Option.some.inj e))) (fun _ _ => trivial)
            · have hre2 : recE (⟨r0, r1, r2, r3, zEnt, rows⟩ : Rec) = 2 := by
                unfold recE at hre ⊢
                split at hre
                · exact absurd rfl hre
                · rename_i h; rw [if_neg h]
              rw [hre2] at hck
              have HCK := Aside0.mk hck
              have HPO : Aside0 (pRec l = none) := ⟨by rw [HP.out, if_neg (fun h => hre h.2.2)]⟩
              clear HP hre hre2 hck hn1 hr1 hlow hen hend
              go_upto_region 18 with fail
              have hS := RBX.of HS.out
              refine wp_region_held_drew (S := fun w' => RBX w w.heap.size g ⟨r0, r1, r2, r3, zEnt, rows⟩ (.slice none 0 0) (.slice B5 rows.length d5) (ya, ea) l w') (by kernel_rfl) hS.drew (fun hHeld => ?_)
              refine takeH (i := 0) (some 74) (v := ?_) rfl rfl (by kernel_rfl) (by kernel_rfl) (by kernel_rfl) (fun _ _ _ h => h) (Or.inl ⟨by kernel_rfl, ?_⟩) (by assumption) ?_
              rotate_left
              · (rintro w' ⟨s0, s1, s2, s3, s4, s5, s6, s7, s8, s9, s10, s11, t0, t1, t2, t3, t4, t5, t6, t7, t8, t9, t10, t11, s⟩; go_simp; first | done | with_reducible rfl)
              simp only [Act.put, List.setIfInBounds_toArray, List.set_cons_zero, List.set_cons_succ]
              refine takeH (i := 1) (some 75) (v := ?_) rfl rfl (by kernel_rfl) (by kernel_rfl) (by kernel_rfl) (fun _ _ _ h => h) (Or.inl ⟨by kernel_rfl, ?_⟩) (by assumption) ?_
              rotate_left
              · (rintro w' ⟨s0, s1, s2, s3, s4, s5, s6, s7, s8, s9, s10, s11, t0, t1, t2, t3, t4, t5, t6, t7, t8, t9, t10, t11, s⟩; go_simp; first | done | with_reducible rfl)
              simp only [Act.put, List.setIfInBounds_toArray, List.set_cons_zero, List.set_cons_succ]
              refine takeH (i := 2) (some 76) (v := ?_) rfl rfl (by kernel_rfl) (by kernel_rfl) (by kernel_rfl) (fun _ _ _ h => h) (Or.inl ⟨by kernel_rfl, ?_⟩) (by assumption) ?_
              rotate_left
              · (rintro w' ⟨s0, s1, s2, s3, s4, s5, s6, s7, s8, s9, s10, s11, t0, t1, t2, t3, t4, t5, t6, t7, t8, t9, t10, t11, s⟩; go_simp; first | done | with_reducible rfl)
              simp only [Act.put, List.setIfInBounds_toArray, List.set_cons_zero, List.set_cons_succ]
              refine takeH (i := 3) (some 77) (v := ?_) rfl rfl (by kernel_rfl) (by kernel_rfl) (by kernel_rfl) (fun _ _ _ h => h) (Or.inl ⟨by kernel_rfl, ?_⟩) (by assumption) ?_
              rotate_left
              · (rintro w' ⟨s0, s1, s2, s3, s4, s5, s6, s7, s8, s9, s10, s11, t0, t1, t2, t3, t4, t5, t6, t7, t8, t9, t10, t11, s⟩; go_simp; first | done | with_reducible rfl)
              simp only [Act.put, List.setIfInBounds_toArray, List.set_cons_zero, List.set_cons_succ]
              refine takeH (i := 4) (some 78) (v := ?_) rfl rfl (by kernel_rfl) (by kernel_rfl) (by kernel_rfl) (fun _ _ _ h => h) (Or.inl ⟨by kernel_rfl, ?_⟩) (by assumption) ?_
              rotate_left
              · (rintro w' ⟨s0, s1, s2, s3, s4, s5, s6, s7, s8, s9, s10, s11, t0, t1, t2, t3, t4, t5, t6, t7, t8, t9, t10, t11, s⟩; go_simp; first | done | with_reducible rfl)
              simp only [Act.put, List.setIfInBounds_toArray, List.set_cons_zero, List.set_cons_succ]
              refine wpAnyH_ready (rs := [5]) (by kernel_rfl) (by simp) ?_
              refine AllReadyH.cons rfl (fun K hK => ?_) AllReadyH.nil
              go_simp
              refine HEND.out.mono ?_; rintro e w7 ⟨rfl, rfl⟩
              refine hK.out _ _ ?_ (fun hHeld => ?_)
              · assumption
              clear hK K
              try simp only [Act.put, List.setIfInBounds_toArray, List.set_cons_zero, List.set_cons_succ]
              refine takeH (i := 6) (some 80) (v := ?_) rfl rfl (by kernel_rfl) (by kernel_rfl) (by kernel_rfl) (fun _ _ _ h => h) (Or.inl ⟨by kernel_rfl, ?_⟩) (by assumption) ?_
              rotate_left
              · (rintro w' ⟨s0, s1, s2, s3, s4, s5, s6, s7, s8, s9, s10, s11, t0, t1, t2, t3, t4, t5, t6, t7, t8, t9, t10, t11, s⟩; go_simp; first | done | with_reducible rfl)
              simp only [Act.put, List.setIfInBounds_toArray, List.set_cons_zero, List.set_cons_succ]
              refine takeH (i := 7) (some 81) (v := ?_) rfl rfl (by kernel_rfl) (by kernel_rfl) (by kernel_rfl) (fun _ _ _ h => h) (Or.inl ⟨by kernel_rfl, ?_⟩) (by assumption) ?_
              rotate_left
              · (rintro w' ⟨s0, s1, s2, s3, s4, s5, s6, s7, s8, s9, s10, s11, t0, t1, t2, t3, t4, t5, t6, t7, t8, t9, t10, t11, s⟩; go_simp; first | done | with_reducible rfl)
              simp only [Act.put, List.setIfInBounds_toArray, List.set_cons_zero, List.set_cons_succ]
              refine takeH (i := 8) (some 82) (v := ?_) rfl rfl (by kernel_rfl) (by kernel_rfl) (by kernel_rfl) (fun _ _ _ h => h) (Or.inl ⟨by kernel_rfl, ?_⟩) (by assumption) ?_
              rotate_left
              · (rintro w' ⟨s0, s1, s2, s3, s4, s5, s6, s7, s8, s9, s10, s11, t0, t1, t2, t3, t4, t5, t6, t7, t8, t9, t10, t11, s⟩; go_simp; first | done | with_reducible rfl)
              simp only [Act.put, List.setIfInBounds_toArray, List.set_cons_zero, List.set_cons_succ]
              refine takeH (i := 9) (some 83) (v := ?_) rfl rfl (by kernel_rfl) (by kernel_rfl) (by kernel_rfl) (fun _ _ _ h => h) (Or.inl ⟨by kernel_rfl, ?_⟩) (by assumption) ?_
              rotate_left
              · (rintro w' ⟨s0, s1, s2, s3, s4, s5, s6, s7, s8, s9, s10, s11, t0, t1, t2, t3, t4, t5, t6, t7, t8, t9, t10, t11, s⟩; go_simp; first | done | with_reducible rfl)
              simp only [Act.put, List.setIfInBounds_toArray, List.set_cons_zero, List.set_cons_succ]
              refine wpAnyH_ready (rs := [10]) (by kernel_rfl) (by simp) ?_
              refine AllReadyH.cons rfl (fun K hK => ?_) AllReadyH.nil
              go_simp
              refine HCK.out.mono ?_; rintro e w8 ⟨rfl, hb⟩
              refine hK.out _ _ ?_ (fun hHeld => ?_)
              · exact RBX.next hb (RBX.drew hS)
              clear hK K
              try simp only [Act.put, List.setIfInBounds_toArray, List.set_cons_zero, List.set_cons_succ]
              refine takeH (i := 11) (some 85) (v := ?_) rfl rfl (by kernel_rfl) (by kernel_rfl) (by kernel_rfl) (fun _ _ _ h => h) (Or.inl ⟨by kernel_rfl, ?_⟩) (by assumption) ?_
              rotate_left
              · (rintro w' ⟨s0, s1, s2, s3, s4, s5, s6, s7, s8, s9, s10, s11, t0, t1, t2, t3, t4, t5, t6, t7, t8, t9, t10, t11, s⟩; go_simp; first | done | with_reducible rfl)
              simp only [Act.put, List.setIfInBounds_toArray, List.set_cons_zero, List.set_cons_succ]
              refine takeH (i := 12) (some 86) (v := ?_) rfl rfl (by kernel_rfl) (by kernel_rfl) (by kernel_rfl) (fun _ _ _ h => h) (Or.inl ⟨by kernel_rfl, ?_⟩) (by assumption) ?_
              rotate_left
              · (rintro w' ⟨s0, s1, s2, s3, s4, s5, s6, s7, s8, s9, s10, s11, t0, t1, t2, t3, t4, t5, t6, t7, t8, t9, t10, t11, s⟩; go_simp; first | done | with_reducible rfl)
              simp only [Act.put, List.setIfInBounds_toArray, List.set_cons_zero, List.set_cons_succ]
              have HS7 := Aside0.mk (RBX.st hHeld)
              have HV7 := Aside0.mk (Kd.R_below (Kd.R_below HV.out (below_drew (Below.refl _ _))) hb)
              refine wpAnyH_ready (rs := [13]) (by kernel_rfl) (by simp) ?_
              refine AllReadyH.cons rfl (fun K hK => ?_) AllReadyH.nil
              clear hS hHeld
              have hS := RBX.of HS7.out
              obtain ⟨s0, s1, s2, s3, s4, s5, s6, s7, s8, s9, s10, s11, t0, t1, t2, t3, t4, t5, t6, t7, t8, t9, t10, t11, _⟩ := hS
              go_simp
              refine hK.out _ _ ?_ (fun hHeld => ?_)
              · exact RBX.of HS7.out.same
              clear hK K
              try simp only [Act.put, List.setIfInBounds_toArray, List.set_cons_zero, List.set_cons_succ]
              refine takeH (i := 14) (some 3) (v := ?_) rfl rfl (by kernel_rfl) (by kernel_rfl) (by kernel_rfl) (fun _ _ _ h => h) (Or.inl ⟨by kernel_rfl, ?_⟩) (by assumption) ?_
              rotate_left
              · (rintro w' ⟨s0, s1, s2, s3, s4, s5, s6, s7, s8, s9, s10, s11, t0, t1, t2, t3, t4, t5, t6, t7, t8, t9, t10, t11, s⟩; go_simp; first | done | with_reducible rfl)
              simp only [Act.put, List.setIfInBounds_toArray, List.set_cons_zero, List.set_cons_succ]
              refine wpAnyH_done (by kernel_rfl) ?_ _
              have HSf := Aside0.mk HS7.out.same
              clear s0 s1 s2 s3 s4 s5 s6 s7 s8 s9 s10 s11 t0 t1 t2 t3 t4 t5 t6 t7 t8 t9 t10 t11
              go_wp2_with fail
              refine bodyPost_ret (ret_rec (r := ⟨r0, r1, r2, r3, zEnt, rows⟩) HSf.out.box rfl rfl) rfl ⟨⟨r0, r1, r2, r3, zEnt, rows⟩, .slice none 0 0, .slice B5 rows.length d5, by rw [HPO.out]; rfl, Kd.R_nil _ _ _ _ _, ?_, fun y hy => (by rw [HPO.out] at hy; cases hy), HSf.out.low⟩
              exact Kd.R_mono (Kd.R_grown (row := some w.heap.size) HV7.out (put12_grown _ _ _ _ _ _ _ _ _ _ _ _ _ _) (fun j hj e => hj (Option.some.inj e))) (fun _ _ => trivial)
          · have HPO : Aside0 (pRec l = none) := ⟨by rw [HP.out, if_neg (fun h => hen h.2.1)]⟩
            have hz1 : (rEnd ya ea == 0) = false := beq_eq_false_iff_ne.2 hen
            generalize rEnd ya ea = z at *
            have HEND := Aside0.mk hend
            clear HP hen hend
            go_upto_region 18 with fail
            have hS := RBX.of HS.out
            refine wp_region_held_drew (S := fun w' => RBX w w.heap.size g ⟨r0, r1, r2, r3, zEnt, rows⟩ (.slice none 0 0) (.slice B5 rows.length d5) (ya, ea) l w') (by kernel_rfl) hS.drew (fun hHeld => ?_)
            refine takeH (i := 0) (some 74) (v := ?_) rfl rfl (by kernel_rfl) (by kernel_rfl) (by kernel_rfl) (fun _ _ _ h => h) (Or.inl ⟨by kernel_rfl, ?_⟩) (by assumption) ?_
            rotate_left
            · (rintro w' ⟨s0, s1, s2, s3, s4, s5, s6, s7, s8, s9, s10, s11, t0, t1, t2, t3, t4, t5, t6, t7, t8, t9, t10, t11, s⟩; go_simp; first | done | with_reducible rfl)
            simp only [Act.put, List.setIfInBounds_toArray, List.set_cons_zero, List.set_cons_succ]
            refine takeH (i := 1) (some 75) (v := ?_) rfl rfl (by kernel_rfl) (by kernel_rfl) (by kernel_rfl) (fun _ _ _ h => h) (Or.inl ⟨by kernel_rfl, ?_⟩) (by assumption) ?_
            rotate_left
            · (rintro w' ⟨s0, s1, s2, s3, s4, s5, s6, s7, s8, s9, s10, s11, t0, t1, t2, t3, t4, t5, t6, t7, t8, t9, t10, t11, s⟩; go_simp; first | done | with_reducible rfl)
            simp only [Act.put, List.setIfInBounds_toArray, List.set_cons_zero, List.set_cons_succ]
            refine takeH (i := 2) (some 76) (v := ?_) rfl rfl (by kernel_rfl) (by kernel_rfl) (by kernel_rfl) (fun _ _ _ h => h) (Or.inl ⟨by kernel_rfl, ?_⟩) (by assumption) ?_
            rotate_left
            · (rintro w' ⟨s0, s1, s2, s3, s4, s5, s6, s7, s8, s9, s10, s11, t0, t1, t2, t3, t4, t5, t6, t7, t8, t9, t10, t11, s⟩; go_simp; first | done | with_reducible rfl)
            simp only [Act.put, List.setIfInBounds_toArray, List.set_cons_zero, List.set_cons_succ]
            refine takeH (i := 3) (some 77) (v := ?_) rfl rfl (by kernel_rfl) (by kernel_rfl) (by kernel_rfl) (fun _ _ _ h => h) (Or.inl ⟨by kernel_rfl, ?_⟩) (by assumption) ?_
            rotate_left
            · (rintro w' ⟨s0, s1, s2, s3, s4, s5, s6, s7, s8, s9, s10, s11, t0, t1, t2, t3, t4, t5, t6, t7, t8, t9, t10, t11, s⟩; go_simp; first | done | with_reducible rfl)
            simp only [Act.put, List.setIfInBounds_toArray, List.set_cons_zero, List.set_cons_succ]
            refine takeH (i := 4) (some 78) (v := ?_) rfl rfl (by kernel_rfl) (by kernel_rfl) (by kernel_rfl) (fun _ _ _ h => h) (Or.inl ⟨by kernel_rfl, ?_⟩) (by assumption) ?_
            rotate_left
            · (rintro w' ⟨s0, s1, s2, s3, s4, s5, s6, s7, s8, s9, s10, s11, t0, t1, t2, t3, t4, t5, t6, t7, t8, t9, t10, t11, s⟩; go_simp; first | done | with_reducible rfl)
            simp only [Act.put, List.setIfInBounds_toArray, List.set_cons_zero, List.set_cons_succ]
            refine wpAnyH_ready (rs := [5]) (by kernel_rfl) (by simp) ?_
            refine AllReadyH.cons rfl (fun K hK => ?_) AllReadyH.nil
            go_simp
            refine HEND.out.mono ?_; rintro e w7 ⟨rfl, rfl⟩
            refine hK.out _ _ ?_ (fun hHeld => ?_)
            · assumption
            clear hK K
            try simp only [Act.put, List.setIfInBounds_toArray, List.set_cons_zero, List.set_cons_succ]
            refine takeH (i := 6) (some 80) (v := ?_) rfl rfl (by kernel_rfl) (by kernel_rfl) (by kernel_rfl) (fun _ _ _ h => h) (Or.inl ⟨by kernel_rfl, ?_⟩) (by assumption) ?_
            rotate_left
            · (rintro w' ⟨s0, s1, s2, s3, s4, s5, s6, s7, s8, s9, s10, s11, t0, t1, t2, t3, t4, t5, t6, t7, t8, t9, t10, t11, s⟩; go_simp; first | done | with_reducible rfl)
            simp only [Act.put, List.setIfInBounds_toArray, List.set_cons_zero, List.set_cons_succ]
            refine takeH (i := 7) (some 81) (v := ?_) rfl rfl (by kernel_rfl) (by kernel_rfl) (by kernel_rfl) (fun _ _ _ h => h) (Or.inl ⟨by kernel_rfl, ?_⟩) (by assumption) ?_
            rotate_left
            · (rintro w' ⟨s0, s1, s2, s3, s4, s5, s6, s7, s8, s9, s10, s11, t0, t1, t2, t3, t4, t5, t6, t7, t8, t9, t10, t11, s⟩; go_simp; first | done | with_reducible rfl)
            simp only [Act.put, List.setIfInBounds_toArray, List.set_cons_zero, List.set_cons_succ]
            refine takeH (i := 8) (some 82) (v := ?_) rfl rfl (by kernel_rfl) (by kernel_rfl) (by kernel_rfl) (fun _ _ _ h => h) (Or.inl ⟨by kernel_rfl, ?_⟩) (by assumption) ?_
            rotate_left
            · (rintro w' ⟨s0, s1, s2, s3, s4, s5, s6, s7, s8, s9, s10, s11, t0, t1, t2, t3, t4, t5, t6, t7, t8, t9, t10, t11, s⟩; go_simp; first | done | with_reducible rfl)
            simp only [Act.put, List.setIfInBounds_toArray, List.set_cons_zero, List.set_cons_succ]
            refine skipH (i := 9) (some 83) rfl rfl (by kernel_rfl) (by kernel_rfl) (by kernel_rfl) (fun _ _ _ h => h) (by kernel_rfl) (by assumption) ?_
            simp only [Act.put, List.setIfInBounds_toArray, List.set_cons_zero, List.set_cons_succ]
            refine skipH (i := 10) (some 84) rfl rfl (by kernel_rfl) (by kernel_rfl) (by kernel_rfl) (fun _ _ _ h => h) (by kernel_rfl) (by assumption) ?_
            simp only [Act.put, List.setIfInBounds_toArray, List.set_cons_zero, List.set_cons_succ]
            refine skipH (i := 11) (some 85) rfl rfl (by kernel_rfl) (by kernel_rfl) (by kernel_rfl) (fun _ _ _ h => h) (by kernel_rfl) (by assumption) ?_
            simp only [Act.put, List.setIfInBounds_toArray, List.set_cons_zero, List.set_cons_succ]
            refine takeH (i := 12) (some 86) (v := ?_) rfl rfl (by kernel_rfl) (by kernel_rfl) (by kernel_rfl) (fun _ _ _ h => h) (Or.inl ⟨by kernel_rfl, ?_⟩) (by assumption) ?_
            rotate_left
            · (rintro w' ⟨s0, s1, s2, s3, s4, s5, s6, s7, s8, s9, s10, s11, t0, t1, t2, t3, t4, t5, t6, t7, t8, t9, t10, t11, s⟩; go_simp; first | done | with_reducible rfl)
            simp only [Act.put, List.setIfInBounds_toArray, List.set_cons_zero, List.set_cons_succ]
            have HS7 := HS
            have HV7 := HV
            refine wpAnyH_ready (rs := [13]) (by kernel_rfl) (by simp) ?_
            refine AllReadyH.cons rfl (fun K hK => ?_) AllReadyH.nil
            clear hS hHeld
            have hS := RBX.of HS7.out
            obtain ⟨s0, s1, s2, s3, s4, s5, s6, s7, s8, s9, s10, s11, t0, t1, t2, t3, t4, t5, t6, t7, t8, t9, t10, t11, _⟩ := hS
            go_simp
            refine hK.out _ _ ?_ (fun hHeld => ?_)
            · exact RBX.drew (RBX.of HS7.out.same)
            clear hK K
            try simp only [Act.put, List.setIfInBounds_toArray, List.set_cons_zero, List.set_cons_succ]
            refine takeH (i := 14) (some 3) (v := ?_) rfl rfl (by kernel_rfl) (by kernel_rfl) (by kernel_rfl) (fun _ _ _ h => h) (Or.inl ⟨by kernel_rfl, ?_⟩) (by assumption) ?_
            rotate_left
            · (rintro w' ⟨s0, s1, s2, s3, s4, s5, s6, s7, s8, s9, s10, s11, t0, t1, t2, t3, t4, t5, t6, t7, t8, t9, t10, t11, s⟩; go_simp; first | done | with_reducible rfl)
            simp only [Act.put, List.setIfInBounds_toArray, List.set_cons_zero, List.set_cons_succ]
            refine wpAnyH_done (by kernel_rfl) ?_ _
            have HSf := Aside0.mk (HS7.out.same.below (below_drew (Below.refl _ _)))
            clear s0 s1 s2 s3 s4 s5 s6 s7 s8 s9 s10 s11 t0 t1 t2 t3 t4 t5 t6 t7 t8 t9 t10 t11
            go_wp2_with fail
            refine bodyPost_ret (ret_rec (r := ⟨r0, r1, r2, r3, zEnt, rows⟩) HSf.out.box rfl rfl) rfl ⟨⟨r0, r1, r2, r3, zEnt, rows⟩, .slice none 0 0, .slice B5 rows.length d5, by rw [HPO.out]; rfl, Kd.R_nil _ _ _ _ _, ?_, fun y hy => (by rw [HPO.out] at hy; cases hy), HSf.out.low⟩
            exact Kd.R_mono (Kd.R_below (Kd.R_grown (row := some w.heap.size) HV7.out (put12_grown _ _ _ _ _ _ _ _ _ _ _ _ _ _) (fun j hj e => hj (Option.some.inj e))) (below_drew (Below.refl _ _))) (fun _ _ => trivial)
        · have hz0 : (er == 0) = false := beq_eq_false_iff_ne.2 her
          have HPO : Aside0 (pRec l = none) := ⟨by rw [HP.out, if_neg (fun h => her h.1)]⟩
          clear HP her hend
          go_upto_region 18 with fail
          have hS := RBX.of HS.out
          refine wp_region_held_drew (S := fun w' => RBX w w.heap.size g ⟨r0, r1, r2, r3, zEnt, rows⟩ (.slice none 0 0) (.slice B5 rows.length d5) (ya, ea) l w') (by kernel_rfl) hS.drew (fun hHeld => ?_)
          refine takeH (i := 0) (some 74) (v := ?_) rfl rfl (by kernel_rfl) (by kernel_rfl) (by kernel_rfl) (fun _ _ _ h => h) (Or.inl ⟨by kernel_rfl, ?_⟩) (by assumption) ?_
          rotate_left
          · (rintro w' ⟨s0, s1, s2, s3, s4, s5, s6, s7, s8, s9, s10, s11, t0, t1, t2, t3, t4, t5, t6, t7, t8, t9, t10, t11, s⟩; go_simp; first | done | with_reducible rfl)
          simp only [Act.put, List.setIfInBounds_toArray, List.set_cons_zero, List.set_cons_succ]
          refine takeH (i := 1) (some 75) (v := ?_) rfl rfl (by kernel_rfl) (by kernel_rfl) (by kernel_rfl) (fun _ _ _ h => h) (Or.inl ⟨by kernel_rfl, ?_⟩) (by assumption) ?_
          rotate_left
          · (rintro w' ⟨s0, s1, s2, s3, s4, s5, s6, s7, s8, s9, s10, s11, t0, t1, t2, t3, t4, t5, t6, t7, t8, t9, t10, t11, s⟩; go_simp; first | done | with_reducible rfl)
          simp only [Act.put, List.setIfInBounds_toArray, List.set_cons_zero, List.set_cons_succ]
          refine takeH (i := 2) (some 76) (v := ?_) rfl rfl (by kernel_rfl) (by kernel_rfl) (by kernel_rfl) (fun _ _ _ h => h) (Or.inl ⟨by kernel_rfl, ?_⟩) (by assumption) ?_
          rotate_left
          · (rintro w' ⟨s0, s1, s2, s3, s4, s5, s6, s7, s8, s9, s10, s11, t0, t1, t2, t3, t4, t5, t6, t7, t8, t9, t10, t11, s⟩; go_simp; first | done | with_reducible rfl)
          simp only [Act.put, List.setIfInBounds_toArray, List.set_cons_zero, List.set_cons_succ]
          refine takeH (i := 3) (some 77) (v := ?_) rfl rfl (by kernel_rfl) (by kernel_rfl) (by kernel_rfl) (fun _ _ _ h => h) (Or.inl ⟨by kernel_rfl, ?_⟩) (by assumption) ?_
          rotate_left
          · (rintro w' ⟨s0, s1, s2, s3, s4, s5, s6, s7, s8, s9, s10, s11, t0, t1, t2, t3, t4, t5, t6, t7, t8, t9, t10, t11, s⟩; go_simp; first | done | with_reducible rfl)
          simp only [Act.put, List.setIfInBounds_toArray, List.set_cons_zero, List.set_cons_succ]
          refine skipH (i := 4) (some 78) rfl rfl (by kernel_rfl) (by kernel_rfl) (by kernel_rfl) (fun _ _ _ h => h) (by kernel_rfl) (by assumption) ?_
          simp only [Act.put, List.setIfInBounds_toArray, List.set_cons_zero, List.set_cons_succ]
          refine skipH (i := 5) (some 79) rfl rfl (by kernel_rfl) (by kernel_rfl) (by kernel_rfl) (fun _ _ _ h => h) (by kernel_rfl) (by assumption) ?_
          simp only [Act.put, List.setIfInBounds_toArray, List.set_cons_zero, List.set_cons_succ]
          refine skipH (i := 6) (some 80) rfl rfl (by kernel_rfl) (by kernel_rfl) (by kernel_rfl) (fun _ _ _ h => h) (by kernel_rfl) (by assumption) ?_
          simp only [Act.put, List.setIfInBounds_toArray, List.set_cons_zero, List.set_cons_succ]
          refine takeH (i := 7) (some 81) (v := ?_) rfl rfl (by kernel_rfl) (by kernel_rfl) (by kernel_rfl) (fun _ _ _ h => h) (Or.inl ⟨by kernel_rfl, ?_⟩) (by assumption) ?_
          rotate_left
          · (rintro w' ⟨s0, s1, s2, s3, s4, s5, s6, s7, s8, s9, s10, s11, t0, t1, t2, t3, t4, t5, t6, t7, t8, t9, t10, t11, s⟩; go_simp; first | done | with_reducible rfl)
          simp only [Act.put, List.setIfInBounds_toArray, List.set_cons_zero, List.set_cons_succ]
          refine takeH (i := 8) (some 82) (v := ?_) rfl rfl (by kernel_rfl) (by kernel_rfl) (by kernel_rfl) (fun _ _ _ h => h) (Or.inl ⟨by kernel_rfl, ?_⟩) (by assumption) ?_
          rotate_left
          · (rintro w' ⟨s0, s1, s2, s3, s4, s5, s6, s7, s8, s9, s10, s11, t0, t1, t2, t3, t4, t5, t6, t7, t8, t9, t10, t11, s⟩; go_simp; first | done | with_reducible rfl)
          simp only [Act.put, List.setIfInBounds_toArray, List.set_cons_zero, List.set_cons_succ]
          refine skipH (i := 9) (some 83) rfl rfl (by kernel_rfl) (by kernel_rfl) (by kernel_rfl) (fun _ _ _ h => h) (by kernel_rfl) (by assumption) ?_
          simp only [Act.put, List.setIfInBounds_toArray, List.set_cons_zero, List.set_cons_succ]
          refine skipH (i := 10) (some 84) rfl rfl (by kernel_rfl) (by kernel_rfl) (by kernel_rfl) (fun _ _ _ h => h) (by kernel_rfl) (by assumption) ?_
          simp only [Act.put, List.setIfInBounds_toArray, List.set_cons_zero, List.set_cons_succ]
          refine skipH (i := 11) (some 85) rfl rfl (by kernel_rfl) (by kernel_rfl) (by kernel_rfl) (fun _ _ _ h => h) (by kernel_rfl) (by assumption) ?_
          simp only [Act.put, List.setIfInBounds_toArray, List.set_cons_zero, List.set_cons_succ]
          refine takeH (i := 12) (some 86) (v := ?_) rfl rfl (by kernel_rfl) (by kernel_rfl) (by kernel_rfl) (fun _ _ _ h => h) (Or.inl ⟨by kernel_rfl, ?_⟩) (by assumption) ?_
          rotate_left
          · (rintro w' ⟨s0, s1, s2, s3, s4, s5, s6, s7, s8, s9, s10, s11, t0, t1, t2, t3, t4, t5, t6, t7, t8, t9, t10, t11, s⟩; go_simp; first | done | with_reducible rfl)
          simp only [Act.put, List.setIfInBounds_toArray, List.set_cons_zero, List.set_cons_succ]
          have HS7 := HS
          have HV7 := HV
          refine wpAnyH_ready (rs := [13]) (by kernel_rfl) (by simp) ?_
          refine AllReadyH.cons rfl (fun K hK => ?_) AllReadyH.nil
          clear hS hHeld
          have hS := RBX.of HS7.out
          obtain ⟨s0, s1, s2, s3, s4, s5, s6, s7, s8, s9, s10, s11, t0, t1, t2, t3, t4, t5, t6, t7, t8, t9, t10, t11, _⟩ := hS
          go_simp
          refine hK.out _ _ ?_ (fun hHeld => ?_)
          · exact RBX.drew (RBX.of HS7.out.same)
          clear hK K
          try simp only [Act.put, List.setIfInBounds_toArray, List.set_cons_zero, List.set_cons_succ]
          refine takeH (i := 14) (some 3) (v := ?_) rfl rfl (by kernel_rfl) (by kernel_rfl) (by kernel_rfl) (fun _ _ _ h => h) (Or.inl ⟨by kernel_rfl, ?_⟩) (by assumption) ?_
          rotate_left
          · (rintro w' ⟨s0, s1, s2, s3, s4, s5, s6, s7, s8, s9, s10, s11, t0, t1, t2, t3, t4, t5, t6, t7, t8, t9, t10, t11, s⟩; go_simp; first | done | with_reducible rfl)
          simp only [Act.put, List.setIfInBounds_toArray, List.set_cons_zero, List.set_cons_succ]
          refine wpAnyH_done (by kernel_rfl) ?_ _
          have HSf := Aside0.mk (HS7.out.same.below (below_drew (Below.refl _ _)))
          clear s0 s1 s2 s3 s4 s5 s6 s7 s8 s9 s10 s11 t0 t1 t2 t3 t4 t5 t6 t7 t8 t9 t10 t11
          go_wp2_with fail
          refine bodyPost_ret (ret_rec (r := ⟨r0, r1, r2, r3, zEnt, rows⟩) HSf.out.box rfl rfl) rfl ⟨⟨r0, r1, r2, r3, zEnt, rows⟩, .slice none 0 0, .slice B5 rows.length d5, by rw [HPO.out]; rfl, Kd.R_nil _ _ _ _ _, ?_, fun y hy => (by rw [HPO.out] at hy; cases hy), HSf.out.low⟩
          exact Kd.R_mono (Kd.R_below (Kd.R_grown (row := some w.heap.size) HV7.out (put12_grown _ _ _ _ _ _ _ _ _ _ _ _ _ _) (fun j hj e => hj (Option.some.inj e))) (below_drew (Below.refl _ _))) (fun _ _ => trivial)
    · have hp2 : pRec l = none := by
        rw [hp]
        unfold pRec1
        rw [if_pos he]
      have HP := Aside0.mk hp2
      have hz : (e != 0) = true := by rw [bne_iff_ne]; exact he
      clear hp hp2 he
      obtain ⟨⟨q0, q1, q2, q3, q4, q5, q6, q7, q8, q9, q10, q11⟩, ⟨f0, f1, f2, f3, f4, f5, f6, f7, f8, f9, f10, f11⟩⟩ := box12 HS.out.box
      go_wp2_with (first | (go_at_call 54; refine (rd_Err _ g y e HS.out.rd).mono ?_; rintro en w4 ⟨rfl, rfl⟩))
      have HB := below_grownG HS.out.low (put12_grown wc w.heap.size (.int .i64 r0) (.int .i64 r1) (.int .i64 r2) (.int .i64 r3) (.int .i64 zEnt.f0) (.int .i64 zEnt.f1) (.int .i64 zEnt.f2.f0) (.string zEnt.f2.f1) (.int .i64 zEnt.f2.f2) (.int .i64 zEnt.f2.f3) (.slice none 0 0) (.slice none 0 0)) (Nat.le_refl _)
      refine bodyPost_ret (ret_rec (r := ⟨r0, r1, r2, r3, zEnt, []⟩) (put12_box HS.out.box) rfl rfl) rfl ⟨⟨r0, r1, r2, r3, zEnt, []⟩, .slice none 0 0, .slice none 0 0, by rw [HP.out]; rfl, Kd.R_nil _ _ _ _ _, Kd.R_nil _ _ _ _ _, fun y hy => (by rw [HP.out] at hy; cases hy), HB⟩
end Go.Proofs.YtmeblifbkhpdnaaDoor.K
