/- Contracts of entry.each, Row. -/
import Derived.Test.YtmeblifbkhpdnaaDoorGe
import Derived.Test.YtmeblifbkhpdnaaDoorGa
namespace Go.Proofs.YtmeblifbkhpdnaaDoor.K
set_option linter.unusedVariables false
set_option linter.unusedSimpArgs false
open Go.RowKit Go.Proofs.YtmeblifbkhpdnaaDoorW.PrintWords Go.Proofs.YtmeblifbkhpdnaaDoorW.PrintLast Go.Proofs.YtmeblifbkhpdnaaDoorW.PrintMore
def entT (x : Ent) : List Int := vEnc (entB x).length ++ entB x
/-- The bytes of a row of entries. -/
def rowB (l : List Ent) : List Int := vEnc l.length ++ l.flatMap entT
def rowR (l : List Ent) : List Int := if l.all entOk then rowB l else []
def rowE (l : List Ent) : Int := if l.all entOk then 0 else 2
theorem entT_len (x : Ent) (h : entOk x = true) (hw : I64 x.f2.f3) : (entT x).length ≤ 182 := by
  have h1 := entB_len x h hw
  have h2 := vEnc_ten (entB x).length (by omega)
  unfold entT
  rw [List.length_append]
  omega
theorem takeE_snoc (l : List Ent) (k : Nat) (h : k < l.length) : l.take (k + 1) = l.take k ++ [l[k]] := by
  rw [List.take_succ_eq_append_getElem h]
theorem rd_E_at (l : List Ent) (k : Nat) (h : k < l.length) : rd_T38 l (k : Int) = l[k] := by
  simp [rd_T38, List.getElem?_eq_getElem h, List.getD_eq_getElem?_getD]
theorem all_bad (l : List Ent) (k : Nat) (h : k < l.length) (hb : entOk l[k] = false) : l.all entOk = false := by
  rw [List.all_eq_false]
  exact ⟨l[k], List.getElem_mem h, by simp [hb]⟩
/-- The cells of an entry at a place. -/
theorem ent_at {w wr : World} {A : Option Addr} {l : List Ent} (h : kEnt.C w A l.length l) (hb : Below w.heap.size w wr) (k : Nat) (hk : k < l.length) :
    ∃ ad A6 c6, A = some ad ∧ (wr.cell? (ad.add (k * 7)) = some (.int .i64 l[k].f0) ∧ wr.cell? ⟨(ad.add (k * 7)).block, (ad.add (k * 7)).off + 1, none⟩ = some (.int .i64 l[k].f1) ∧ wr.cell? ⟨(ad.add (k * 7)).block, (ad.add (k * 7)).off + 2, none⟩ = some (.int .i64 l[k].f2.f0) ∧ wr.cell? ⟨(ad.add (k * 7)).block, (ad.add (k * 7)).off + 3, none⟩ = some (.string l[k].f2.f1) ∧ wr.cell? ⟨(ad.add (k * 7)).block, (ad.add (k * 7)).off + 4, none⟩ = some (.int .i64 l[k].f2.f2) ∧ wr.cell? ⟨(ad.add (k * 7)).block, (ad.add (k * 7)).off + 5, none⟩ = some (.int .i64 l[k].f2.f3) ∧ wr.cell? ⟨(ad.add (k * 7)).block, (ad.add (k * 7)).off + 6, none⟩ = some (.slice A6 l[k].f2.f4.length c6)) ∧ l[k].f2.f4.length ≤ c6 ∧ kLine.C wr A6 l[k].f2.f4.length l[k].f2.f4 := by
  obtain ⟨ad, A6, c6, e1, h0, h1, h2, h3, h4, h5, h6, h7, h8⟩ := at_T38 h (k : Int) (by omega) (by omega)
  rw [rd_E_at l k hk] at h0 h1 h2 h3 h4 h5 h6 h7 h8
  rw [Int.toNat_natCast] at h0 h1 h2 h3 h4 h5 h6
  exact ⟨ad, A6, c6, e1, ⟨(hb.cell (cell_blk h0)).trans h0, (hb.cell (cell_blk h1)).trans h1, (hb.cell (cell_blk h2)).trans h2, (hb.cell (cell_blk h3)).trans h3, (hb.cell (cell_blk h4)).trans h4, (hb.cell (cell_blk h5)).trans h5, (hb.cell (cell_blk h6)).trans h6⟩, h7, Kd.C_below h8 hb⟩
set_option maxRecDepth 20000 in
set_option maxHeartbeats 4000000 in
theorem entry_each (w : World) (A : Option Addr) (c : Nat) (l : List Ent) (hG : GItem w) (hA : kEnt.C w A l.length l) (hc : l.length ≤ c) (hw : ∀ x ∈ l, I64 x.f2.f3) (hl : l.length < 4294967296) :
    Calls Tryd.prog 76 #[.slice A l.length c, .func (.func 35) #[] #[]] w fun en w' => ∃ v, en = .returned (.tuple #[v, .int .i64 (rowE l)]) ∧ Kd.R (Kd.int .u8) 5 w' w.heap.size (fun _ => True) v (rowR l) ∧ Below w.heap.size w w' := by
  have HG := Aside0.mk hG
  have HA := Aside0.mk hA
  have HI := Aside0.mk hw
  have HL := Aside0.mk hl
  have hwl := wrap_u64_nat l.length (by omega)
  have HV := Aside0.mk (bits_Varint w none 0 [] l.length (Kd.C_nil _ _) (Nat.le_refl _) (by simp) (by omega))
  have HVL := Aside0.mk (vEnc_ten l.length (by omega))
  have hlm : l.length ≤ maxLen := hA.2.1
  have HLM := Aside0.mk hlm
  clear hG hA hw hl hlm
  go_enter Tryd.func76, Tryd.ntmps76
  go_wp2_with (first | (go_at_call 34; refine HV.out.mono ?_; rintro en w1 ⟨v, rfl, hv, hb⟩; have HO := Aside0.mk hv; have HB := Aside0.mk hb; clear hv hb))
  go_loopw [6, 17] (fun s6 v wr => ∃ (k : Nat) (row : List Int), k ≤ l.length ∧ v = .int .i64 k ∧ Aside0 (row = vEnc l.length ++ (l.take k).flatMap entT) ∧ Aside0 (row.length ≤ 10 + 182 * k) ∧ Aside0 ((l.take k).all entOk = true) ∧ Aside0 (Kd.R (Kd.int .u8) 5 wr w.heap.size (fun _ => True) s6 row) ∧ Aside0 (Below w.heap.size w wr)) (fun _ v _ => l.length - (intOf v).toNat)
  case atStart => exact ⟨0, _, by omega, rfl, ⟨by simp⟩, ⟨by have := HVL.out; simpa using this⟩, ⟨rfl⟩, HO, HB⟩
  case round =>
    clear HO HB HV
    obtain ⟨k, row, hk, rfl, HRW, HRL, HAL, HO, HB⟩ := hrel
    by_cases hlt : k < l.length
    · have hb : decide ((k : Int) < (l.length : Int)) = true := by simp; omega
      obtain ⟨ad, A6, c6, e1, ⟨h0, h1, h2, h3, h4, h5, h6⟩, hc6, hC6⟩ := ent_at HA.out HB.out k hlt
      cases e1
      have HT := Aside0.mk (takeE_snoc l k hlt)
      have HBAD := Aside0.mk (all_bad l k hlt)
      have HIx := Aside0.mk (HI.out l[k] (List.getElem_mem hlt))
      generalize l[k] = x at *
      have HC6 := Aside0.mk hC6
      have HCC6 := Aside0.mk hc6
      have HBT := Aside0.mk (fun W (hb : Below wr.heap.size wr W) => entry_Bytes W A6 c6 x (HG.out.keep (HB.out.trans (hb.mono HB.out.size)) HG.out.lt) (Kd.C_below HC6.out hb) HCC6.out HIx.out)
      clear hC6 hc6
      go_upto_if 28 with (first | (go_at_call 35; refine (HBT.out _ (below_alloc (Below.refl _ _) _)).mono ?_; rintro en w2 ⟨v, rfl, hv, hb⟩; have HOx := Aside0.mk hv; have HB2 := Aside0.mk ((below_alloc (Below.refl _ _) _).trans (hb.mono (by simp))); clear hv hb))
      have hE : entE x = if entOk x then 0 else 2 := rfl
      have hR : entR x = if entOk x then entB x else [] := rfl
      cases hok : entOk x
      · rw [hok] at hE
        simp only [Bool.false_eq_true, if_false] at hE
        have hz : (entE x != 0) = true := by rw [hE]; rfl
        have HE := Aside0.mk hE
        have HBD := Aside0.mk (HBAD.out hok)
        clear hE hR hok
        go_wp2_with fail
        go_ret2
        exact ⟨.slice none 0 0, by unfold rowE; rw [HBD.out, HE.out]; rfl, by unfold rowR; rw [HBD.out]; exact Kd.R_nil _ _ _ _ _, HB.out.trans (HB2.out.mono HB.out.size)⟩
      · rw [hok] at hE hR
        simp only [if_true] at hE hR
        have hz : (entE x != 0) = false := by rw [hE]; rfl
        rw [hR] at HOx
        have HXL := Aside0.mk (entT_len x hok HIx.out)
        have HXB := Aside0.mk (entB_len x hok HIx.out)
        obtain ⟨A1, c1, e1, hc1, hr1⟩ := R_C (Kd.R_below HO.out HB2.out)
        cases e1
        obtain ⟨A2, c2, e2, hc2, hr2⟩ := R_C HOx.out
        cases e2
        have hrl : row.length + (entB x).length + 10 < 140737488355328 := by
          have h1 := HRL.out
          have h2 := HL.out
          have h3 := HXB.out
          omega
        have HTX := Aside0.mk (bits_Text w2 A1 c1 row A2 c2 (entB x) hr1 hc1 hr2 hc2 hrl)
        have HOK := Aside0.mk hok
        have HB2' := Aside0.mk (HB.out.trans (HB2.out.mono HB.out.size))
        clear hE hR hok hr1 hc1 hr2 hc2 hrl HO HOx
        go_wp2_with (first | (go_at_call 37; refine HTX.out.mono ?_; rintro en w3 ⟨v3, rfl, hv, hb⟩; have HO3 := Aside0.mk (Kd.R_lower hv HB2'.out.size); have HB3 := Aside0.mk (HB2'.out.trans (hb.mono HB2'.out.size)); clear hv hb))
        have hwk := wrap_next l.length k hlt HLM.out
        go_roundw
        case rel =>
          have e : row ++ (vEnc (entB x).length ++ entB x) = vEnc l.length ++ (l.take (k + 1)).flatMap entT := by
            rw [HRW.out, HT.out, List.flatMap_append]
            simp [entT, List.append_assoc]
          refine ⟨k + 1, _, by omega, by rw [hwk], ⟨e⟩, ⟨?_⟩, ⟨?_⟩, HO3, HB3⟩
          · have h1 := HRL.out
            have h2 := HXL.out
            unfold entT at h2
            rw [List.length_append]
            omega
          · rw [HT.out, List.all_append, HAL.out]
            simp [HOK.out]
        case measure => exact meas_step l.length k hlt hwk
    · have hb : decide ((k : Int) < (l.length : Int)) = false := by simp; omega
      obtain rfl : k = l.length := by omega
      have hall := HAL.out
      rw [List.take_length] at hall
      have HALL := Aside0.mk hall
      clear hall
      go_wp2_with fail
      go_ret2
      refine ⟨_, by unfold rowE; rw [HALL.out]; rfl, ?_, HB.out⟩
      have h := HO.out
      rw [HRW.out, List.take_length] at h
      unfold rowR
      rw [HALL.out]
      exact h
set_option maxRecDepth 20000 in
set_option maxHeartbeats 4000000 in
theorem entry_Row (w : World) (A : Option Addr) (c : Nat) (l : List Ent) (hG : GItem w) (hA : kEnt.C w A l.length l) (hc : l.length ≤ c) (hw : ∀ x ∈ l, I64 x.f2.f3) (hl : l.length < 4294967296) :
    Calls Tryd.prog 36 #[.slice A l.length c] w fun en w' => ∃ v, en = .returned (.tuple #[v, .int .i64 (rowE l)]) ∧ Kd.R (Kd.int .u8) 5 w' w.heap.size (fun _ => True) v (rowR l) ∧ Below w.heap.size w w' := by
  have HE := Aside0.mk (entry_each w A c l hG hA hc hw hl)
  clear hG hA hc hw hl
  go_enter Tryd.func36, Tryd.ntmps36
  go_wp2_with (first | (go_at_call 76; refine HE.out.mono ?_; rintro en w1 ⟨v, rfl, hv, hb⟩; have HO := Aside0.mk hv; have HB := Aside0.mk hb; clear hv hb))
  go_ret2
  exact ⟨_, rfl, HO.out, HB.out⟩
end Go.Proofs.YtmeblifbkhpdnaaDoor.K
/- Contract of entry.Rows. -/
namespace Go.Proofs.YtmeblifbkhpdnaaDoor.K
set_option linter.unusedVariables false
set_option linter.unusedSimpArgs false
open Go.RowKit Go.Proofs.YtmeblifbkhpdnaaDoorW.PrintWords Go.Proofs.YtmeblifbkhpdnaaDoorW.PrintLast Go.Proofs.YtmeblifbkhpdnaaDoorW.PrintMore
theorem vr_lt : ∀ (t : List Int) (i : Nat) (u : Int), (vr i u t).2.2 = 0 → (vr i u t).2.1.length < t.length
  | [], i, u, h => by simp [vr] at h
  | c :: t, i, u, h => by
    rw [vr] at h ⊢
    split at h
    · simp at h
    · split at h
      · simp at h
      · split at h
        · rename_i h1 h2 h3
          rw [if_neg h1, if_neg h2, if_pos h3]
          simp
        · rename_i h1 h2 h3
          rw [if_neg h1, if_neg h2, if_neg h3]
          have := vr_lt t _ _ h
          simp only [List.length_cons]
          omega
theorem rVar_zero (l : List Int) (e : Int) (h : (rVar l e).2.2 ≠ 0) : (rVar l e).1 = 0 := by
  have hv : ∀ (t : List Int) (i : Nat) (u : Int), (vr i u t).2.2 ≠ 0 → (vr i u t).1 = 0 := by
    intro t
    induction t with
    | nil => intro i u _; rw [vr]
    | cons c t ih =>
      intro i u h
      rw [vr] at h ⊢
      split
      · rfl
      · split
        · rfl
        · split
          · rename_i h1 h2 h3
            rw [if_neg h1, if_neg h2, if_pos h3] at h
            simp at h
          · rename_i h1 h2 h3
            rw [if_neg h1, if_neg h2, if_neg h3] at h
            exact ih _ _ h
  unfold rVar at h ⊢
  split
  · rfl
  · rename_i h1
    rw [if_neg h1] at h
    exact hv l 0 0 h
theorem rText_lt (l : List Int) (e : Int) (h : (rText l e).2.2 = 0) : (rText l e).2.1.length < l.length := by
  unfold rText at h ⊢
  split at h
  · rename_i h1
    exact absurd h h1
  · rename_i h1
    split at h
    · simp at h
    · rename_i h2
      rw [if_neg h1, if_neg h2]
      have h3 : (rVar l e).2.1.length < l.length := by
        unfold rVar at h1 ⊢
        split
        · rename_i h4
          rw [if_pos h4] at h1
          exact absurd h4 h1
        · rename_i h4
          rw [if_neg h4] at h1
          exact vr_lt l 0 0 (by simpa using h1)
      simp only [List.length_drop]
      omega
theorem rText_val (l : List Int) (e : Int) (hb : CrcMath.Bytes l) : (rText l e).1.length ≤ l.length ∧ CrcMath.Bytes (rText l e).1 := by
  have h := rVar_range l e hb
  unfold rText
  split
  · exact ⟨by simp, bytes_nil⟩
  · split
    · exact ⟨by simp, bytes_nil⟩
    · exact ⟨by rw [List.length_take]; have := h.2.2.2; omega, fun z hz => h.2.2.1 z (List.mem_of_mem_take hz)⟩
/-- What Rows tells: rounds. -/
def pRowsN : Nat → List Int × Int → List Ent → List Ent × Int × List Int × Int
  | 0, x, acc => (acc, 0, x)
  | n + 1, x, acc => if (rText x.1 x.2).2.2 ≠ 0 then ([], (rText x.1 x.2).2.2, (rText x.1 x.2).2) else if (pEnt (rText x.1 x.2).1).2 ≠ 0 then ([], (pEnt (rText x.1 x.2).1).2, (rText x.1 x.2).2) else pRowsN n (rText x.1 x.2).2 (acc ++ [(pEnt (rText x.1 x.2).1).1])
def pRows (l : List Int) : List Ent × Int :=
  if (pRowsN (rVar l 0).1.toNat (rVar l 0).2 []).2.1 ≠ 0 then ([], (pRowsN (rVar l 0).1.toNat (rVar l 0).2 []).2.1) else
  if rEnd (pRowsN (rVar l 0).1.toNat (rVar l 0).2 []).2.2.1 (pRowsN (rVar l 0).1.toNat (rVar l 0).2 []).2.2.2 ≠ 0 then ([], rEnd (pRowsN (rVar l 0).1.toNat (rVar l 0).2 []).2.2.1 (pRowsN (rVar l 0).1.toNat (rVar l 0).2 []).2.2.2) else
  ((pRowsN (rVar l 0).1.toNat (rVar l 0).2 []).1, 0)
/-- Another row of the call's own has been written. -/
theorem Rd.app {W W' : World} {g : Nat} {l : List Int} {e : Int} (h : Rd W g l e) {α : Type} {d : Kd α} {e' base : Nat} {ok : Nat → Prop} {u : Value} {xs : List α} (hR : d.R e' W base ok u xs) (hok : ∀ j, ok j → j ≠ g) (ht : 5 ≠ e') (hgr : W.grownBy W' u.ownBlock) : Rd W' g l e := by
  cases ho : u.ownBlock with
  | none =>
    rw [ho] at hgr
    exact h.below (grown_none hgr)
  | some q =>
    rw [ho] at hgr
    obtain ⟨cl, hc⟩ := Kd.R_typed hR q ho
    exact h.keep hgr (hok q (hR.1 q ho)) hc ht
theorem infoEnt : (Tryd.prog.info? 38).map (fun i => (i.zero, i.size, i.bytes)) = some (some (.agg #[(.int .i64 0), (.int .i64 0), (.int .i64 0), (.string ⟨#[]⟩), (.int .i64 0), (.int .i64 0), (.slice none 0 0)]), 7, 80) := by kernel_rfl
set_option maxRecDepth 20000 in
set_option maxHeartbeats 4000000 in
theorem entry_Rows (w : World) (A : Option Addr) (c : Nat) (l : List Int) (hG : GItem w) (hC : Kd.C (Kd.int .u8) w A l.length l) (hc : l.length ≤ c) (hb : CrcMath.Bytes l) (hl : l.length < 1099511627776) :
    Calls Tryd.prog 61 #[.slice A l.length c] w fun en w' => ∃ v, en = .returned (.tuple #[v, .int .i64 (pRows l).2]) ∧ Kd.R kEnt 38 w' w.heap.size (fun _ => True) v (pRows l).1 ∧ Below w.heap.size w w' := by
  have HG := Aside0.mk hG
  have HBY := Aside0.mk hb
  have HL := Aside0.mk hl
  have HREAD := Aside0.mk (bits_Read w A c l hC hc hb (by omega))
  have hV := rVar_range l 0 hb
  have hp : pRows l = if (pRowsN (rVar l 0).1.toNat (rVar l 0).2 []).2.1 ≠ 0 then ([], (pRowsN (rVar l 0).1.toNat (rVar l 0).2 []).2.1) else
    if rEnd (pRowsN (rVar l 0).1.toNat (rVar l 0).2 []).2.2.1 (pRowsN (rVar l 0).1.toNat (rVar l 0).2 []).2.2.2 ≠ 0 then ([], rEnd (pRowsN (rVar l 0).1.toNat (rVar l 0).2 []).2.2.1 (pRowsN (rVar l 0).1.toNat (rVar l 0).2 []).2.2.2) else
    ((pRowsN (rVar l 0).1.toNat (rVar l 0).2 []).1, 0) := rfl
  have HVR := fun W g h => rd_Varint W g l 0 h
  generalize rVar l 0 = q at hp hV HVR
  obtain ⟨n, x1⟩ := q
  simp only at hp hV HVR
  obtain ⟨n, rfl⟩ := Int.eq_ofNat_of_zero_le hV.1
  rw [Int.toNat_natCast] at hp
  have HXL := Aside0.mk hV.2.2
  have HN := Aside0.mk hV.2.1
  generalize hq : pRowsN n x1 [] = q at hp
  obtain ⟨res, er, y, ey⟩ := q
  simp only at hp
  have HP := Aside0.mk hp
  have HQ := Aside0.mk hq
  clear hG hC hc hb hl hV hp hq
  go_enter Tryd.func61, Tryd.ntmps61
  go_wp2_with (first
    | (go_at_call 24; refine HREAD.out.mono ?_; rintro en w1 ⟨g, rfl, hge, hr, hbb⟩; have HR := Aside0.mk hr; have HB := Aside0.mk hbb; have HGE := Aside0.mk hge; clear hr hbb hge HREAD)
    | (go_at_call 59; refine (HVR _ g HR.out).mono ?_; rintro en w3 ⟨rfl, hr, hg⟩; have HR3 := Aside0.mk hr; have HB3 := Aside0.mk (below_grownG HB.out hg HGE.out); clear hr hg))
  go_loopw [2, 5] (fun s2 v wr => ∃ (m : Nat) (acc : List Ent) (x : List Int × Int), v = .int .u64 (m : Int) ∧ Aside0 (m ≤ n) ∧ Aside0 (pRowsN m x acc = (res, er, y, ey)) ∧ Aside0 (Rd wr g x.1 x.2) ∧ Aside0 (acc.length + x.1.length ≤ l.length) ∧ Aside0 (Kd.R kEnt 38 wr w.heap.size (fun j => j ≠ g) s2 acc) ∧ Aside0 (Below w.heap.size w wr)) (fun _ v _ => (intOf v).toNat)
  case atStart => exact ⟨n, [], x1, rfl, ⟨Nat.le_refl _⟩, HQ, HR3, ⟨by have := HXL.out.2; simpa using this⟩, ⟨Kd.R_nil _ _ _ _ _⟩, HB3⟩
  case round =>
    clear HR HB HR3 HB3 HVR
    obtain ⟨m, acc, x, rfl, HMN, HPN, HR, HLN, HO, HB⟩ := hrel
    cases m with
    | zero =>
      have h := HPN.out
      rw [pRowsN] at h
      obtain ⟨hh1, hh2⟩ := Prod.mk.inj h
      obtain ⟨hh2, hh3⟩ := Prod.mk.inj hh2
      subst hh1 hh2 hh3
      have hb : decide ((0 : Int) < ((0 : Nat) : Int)) = false := by simp
      have hend := rd_End wr g y ey HR.out
      have hpo := HP.out
      rw [if_neg (by simp)] at hpo
      clear h HPN HQ
      by_cases he : rEnd y ey = 0
      · rw [he] at hend
        rw [if_neg (by simpa using he)] at hpo
        have HPO := Aside0.mk hpo
        clear he hpo
        go_wp2_with (first | (go_at_call 63; refine hend.mono ?_; rintro en w4 ⟨rfl, rfl⟩))
        go_ret2
        exact ⟨_, by rw [HPO.out]; rfl, by rw [HPO.out]; exact Kd.R_mono HO.out (fun _ _ => trivial), HB.out⟩
      · rw [if_pos he] at hpo
        have hz : (rEnd y ey != 0) = true := by rw [bne_iff_ne]; exact he
        have HPO := Aside0.mk hpo
        clear he hpo
        generalize rEnd y ey = z at *
        go_wp2_with (first | (go_at_call 63; refine hend.mono ?_; rintro en w4 ⟨rfl, rfl⟩))
        go_ret2
        exact ⟨.slice none 0 0, by rw [HPO.out]; rfl, by rw [HPO.out]; exact Kd.R_nil _ _ _ _ _, HB.out⟩
    | succ m =>
      have hb : decide ((0 : Int) < ((m + 1 : Nat) : Int)) = true := decide_eq_true (by omega)
      have h := HPN.out
      rw [pRowsN] at h
      have HTL := Aside0.mk (rText_range x.1 x.2 HR.out.bytes)
      have HTV := Aside0.mk (rText_val x.1 x.2 HR.out.bytes)
      have HTT := Aside0.mk (rText_lt x.1 x.2)
      have HTX := Aside0.mk (rd_Text wr g x.1 x.2 HR.out (by have h1 := HLN.out; have h2 := HL.out; omega))
      generalize rText x.1 x.2 = q at h HTL HTV HTT HTX
      obtain ⟨tx, xa, ea⟩ := q
      simp only at h
      by_cases hea : ea = 0
      · subst hea
        rw [if_neg (by simp)] at h
        have HPAR := Aside0.mk (fun W A2 c2 h1 h2 h3 => entry_Parse W A2 c2 tx h1 h2 h3 HTV.out.2 (by have h1 : tx.length ≤ x.1.length := HTV.out.1; have h2 := HLN.out; have h3 := HL.out; omega))
        generalize pEnt tx = q at h HPAR
        obtain ⟨p, ep⟩ := q
        simp only at h
        by_cases hep : ep = 0
        · subst hep
          rw [if_neg (by simp)] at h
          have HN2 := Aside0.mk h
          have hwm : IntKind.u64.wrap (m : Int) = (m : Int) := wrap_u64_nat m (by have h1 := HMN.out; have h2 := HN.out; omega)
          have HWM := Aside0.mk hwm
          clear h HPN HQ hwm
          go_upto_region 12 with (first
            | (go_at_call 62; refine HTX.out.mono ?_; rintro en wt ⟨vt, rfl, hv, hr, hg⟩; obtain ⟨A1, c1, e1, hcc1, hr1⟩ := R_C hv; cases e1; have HRt := Aside0.mk hr; have HOt := Aside0.mk (Kd.R_grown HO.out hg (fun j hj q => hj (Option.some.inj q))); have HBt := Aside0.mk (below_grownG HB.out hg HGE.out); have HCt := Aside0.mk hr1; have HCCt := Aside0.mk hcc1; clear hv hr hg hr1 hcc1)
            | (go_at_call 54; refine (rd_Err wt g xa 0 HRt.out).mono ?_; rintro en w4 ⟨rfl, rfl⟩)
            | (go_at_call 60; refine (HPAR.out wt A1 c1 (HG.out.keep HBt.out HG.out.lt) HCt.out HCCt.out).mono ?_; rintro en w5 ⟨v5, rfl, hv, hb5⟩; obtain ⟨A5, c5, e5⟩ := Kd.R_slice hv; subst e5; have HV5 := Aside0.mk hv; have HW5 := Aside0.mk hb5; clear hv hb5))
          have HBa := Aside0.mk (below_alloc HW5.out (.cells (entC p (.slice A5 p.f2.f4.length c5)) 38))
          have HB5 := Aside0.mk (HBt.out.trans (HBa.out.mono HBt.out.size))
          have HR5 := Aside0.mk (HRt.out.below HBa.out)
          have HO6 := Aside0.mk (Kd.R_below HOt.out HBa.out)
          have HV6 := Aside0.mk (Kd.R_alloc (Kd.R_lower (Kd.R_mono (Kd.R_bound HV5.out) (ok' := fun j => wt.heap.size ≤ j) (fun j hj => hj.2.1)) HBt.out.size) (.cells (entC p (.slice A5 p.f2.f4.length c5)) 38))
          have hokp : ∀ j, wt.heap.size ≤ j → j ≠ g ∧ some j ≠ u2.ownBlock := fun j hj => ⟨fun e => by have := HRt.out.lt; omega, fun e => by have := Kd.R_lt HOt.out j e.symm; omega⟩
          have HOKP := Aside0.mk hokp
          have HGLT := Aside0.mk HR5.out.lt
          clear hokp HV5 HW5 HOt
          obtain ⟨W5, hW5⟩ : ∃ W5, W5 = w5.alloc (.cells (entC p (.slice A5 p.f2.f4.length c5)) 38) := ⟨_, rfl⟩
          have hsz : w5.heap.size + 1 = W5.heap.size := by rw [hW5, World.size_alloc]
          have hq := blk_new w5 (.cells (entC p (.slice A5 p.f2.f4.length c5)) 38)
          rw [← hW5] at HBa HB5 HR5 HO6 HV6 HGLT hq ⊢
          obtain ⟨⟨d0, d1, d2, d3, d4, d5, d6⟩, _⟩ := box7 hq
          clear hW5 hq
          go_wp2_with (first | ((with_reducible refine gate_builtin (b := .append) (xs := #[.tmp 34, .tmp 36]) rfl ?_); at_builtin; go_loud (refine Kd.R_append kEnt (w0 := w) w.heap.size rfl (.tmp 34) (.tmp 36) 39 38 (.agg #[(.int .i64 0), (.int .i64 0), (.int .i64 0), (.string ⟨#[]⟩), (.int .i64 0), (.int .i64 0), (.slice none 0 0)]) 80 rfl Tryd.underlying39 infoEnt rfl (by decide) (by omega) u2 acc p [.int .i64 p.f0, .int .i64 p.f1, .int .i64 p.f2.f0, .string p.f2.f1, .int .i64 p.f2.f2, .int .i64 p.f2.f3, .slice A5 p.f2.f4.length c5] (fun j => j ≠ g) (fun j => wt.heap.size ≤ j) rfl ?aX ?aP ?aK ?aF ?aO ?aB ?aS ?aL ?_; (case aX => first | rfl | (simp only [World.size_alloc]; rfl)); (case aP => exact k38_mkM _ _ _ p HV6.out); (case aK => exact HOKP.out); (case aB => exact HB5.out); (case aF => exact (fun j hj e => by have := HGLT.out; omega)); (case aO => exact HO6.out); (case aS => exact HB5.out.size); (case aL => (have h1 := HLN.out; have h2 := HL.out; have h3 : xa.length < x.1.length := HTT.out (by simp); omega)); intro v7 w7 hv hw hg7 hat7; have HR7 := Aside0.mk (HR5.out.app HO6.out (fun j hj => hj) (by decide) hg7); have HO7 := Aside0.mk hv; have HB7 := Aside0.mk hw; clear hv hw hg7 hat7)))
          rw [HWM.out]
          refine ⟨⟨m, acc ++ [p], (xa, 0), rfl, ⟨by have := HMN.out; omega⟩, HN2, HR7, ⟨?_⟩, HO7, HB7⟩, ?_⟩
          · have h1 := HLN.out
            have h3 : xa.length < x.1.length := HTT.out (by simp)
            simp only [List.length_append, List.length_cons, List.length_nil]
            omega
          · simp only [intOf]
            omega
        · rw [if_pos hep] at h
          obtain ⟨hh1, hh2⟩ := Prod.mk.inj h
          obtain ⟨hh2, hh3⟩ := Prod.mk.inj hh2
          subst hh1 hh2
          have hz : (ep != 0) = true := by rw [bne_iff_ne]; exact hep
          have hpo := HP.out
          rw [if_pos hep] at hpo
          have HPO := Aside0.mk hpo
          clear h HPN HQ hh3 hep hpo
          go_wp2_with (first
            | (go_at_call 62; refine HTX.out.mono ?_; rintro en wt ⟨vt, rfl, hv, hr, hg⟩; obtain ⟨A1, c1, e1, hcc1, hr1⟩ := R_C hv; cases e1; have HRt := Aside0.mk hr; have HBt := Aside0.mk (below_grownG HB.out hg HGE.out); have HCt := Aside0.mk hr1; have HCCt := Aside0.mk hcc1; clear hv hr hg hr1 hcc1)
            | (go_at_call 54; refine (rd_Err wt g xa 0 HRt.out).mono ?_; rintro en w4 ⟨rfl, rfl⟩)
            | (go_at_call 60; refine (HPAR.out wt A1 c1 (HG.out.keep HBt.out HG.out.lt) HCt.out HCCt.out).mono ?_; rintro en w5 ⟨v5, rfl, hv, hb5⟩; obtain ⟨A5, c5, e5⟩ := Kd.R_slice hv; subst e5; have HB5 := Aside0.mk (below_alloc (HBt.out.trans (hb5.mono HBt.out.size)) (.cells (entC p (.slice A5 p.f2.f4.length c5)) 38)); clear hv hb5))
          go_ret2
          exact ⟨.slice none 0 0, by rw [HPO.out]; rfl, by rw [HPO.out]; exact Kd.R_nil _ _ _ _ _, HB5.out⟩
      · rw [if_pos hea] at h
        obtain ⟨hh1, hh2⟩ := Prod.mk.inj h
        obtain ⟨hh2, hh3⟩ := Prod.mk.inj hh2
        subst hh1 hh2
        have hz : (ea != 0) = true := by rw [bne_iff_ne]; exact hea
        have hpo := HP.out
        rw [if_pos hea] at hpo
        have HPO := Aside0.mk hpo
        clear h HPN HQ hh3 hea hpo
        go_wp2_with (first
          | (go_at_call 62; refine HTX.out.mono ?_; rintro en wt ⟨vt, rfl, hv, hr, hg⟩; obtain ⟨A1, c1, e1, hcc1, hr1⟩ := R_C hv; cases e1; have HRt := Aside0.mk hr; have HBt := Aside0.mk (below_grownG HB.out hg HGE.out); clear hv hr hg hr1 hcc1)
          | (go_at_call 54; refine (rd_Err wt g xa ea HRt.out).mono ?_; rintro en w4 ⟨rfl, rfl⟩))
        go_ret2
        exact ⟨.slice none 0 0, by rw [HPO.out]; rfl, by rw [HPO.out]; exact Kd.R_nil _ _ _ _ _, HBt.out⟩
end Go.Proofs.YtmeblifbkhpdnaaDoor.K
/- Contracts of slices.EqualFunc of entries, entry.SameRow. -/
namespace Go.Proofs.YtmeblifbkhpdnaaDoor.K
set_option linter.unusedVariables false
set_option linter.unusedSimpArgs false
open Go.RowKit Go.Proofs.YtmeblifbkhpdnaaDoorW.PrintWords Go.Proofs.YtmeblifbkhpdnaaDoorW.PrintLast Go.Proofs.YtmeblifbkhpdnaaDoorW.PrintMore
theorem eqBy_drop {α : Type} (f : α → α → Bool) (a b : List α) (k : Nat) (h1 : k < a.length) (h2 : k < b.length) : eqBy f (a.drop k) (b.drop k) = (f a[k] b[k] && eqBy f (a.drop (k + 1)) (b.drop (k + 1))) := by
  rw [List.drop_eq_getElem_cons h1, List.drop_eq_getElem_cons h2]
  rfl
set_option maxRecDepth 20000 in
set_option maxHeartbeats 4000000 in
theorem equalFunc (w : World) (A A' : Option Addr) (c c' : Nat) (a b : List Ent) (hA : kEnt.C w A a.length a) (hc : a.length ≤ c) (hA' : kEnt.C w A' b.length b) (hc' : b.length ≤ c') :
    Calls Tryd.prog 85 #[.slice A a.length c, .slice A' b.length c', .func (.func 42) #[] #[]] w fun en w' => en = .returned (.bool (eqBy sameEnt a b)) ∧ Below w.heap.size w w' := by
  have HA := Aside0.mk hA
  have HA' := Aside0.mk hA'
  have hlm : a.length ≤ maxLen := hA.2.1
  have HLM := Aside0.mk hlm
  clear hA hA' hlm
  by_cases hab : a.length = b.length
  · have hd : ((a.length : Int) != (b.length : Int)) = false := by rw [hab]; simp
    have HAB := Aside0.mk hab
    clear hab
    go_enter Tryd.func85, Tryd.ntmps85
    go_wp2_with fail
    go_loopw [17] (fun v wr => ∃ (k : Nat), k ≤ a.length ∧ v = .int .i64 k ∧ Aside0 (eqBy sameEnt (a.drop k) (b.drop k) = eqBy sameEnt a b) ∧ Aside0 (Below w.heap.size w wr)) (fun v _ => a.length - (intOf v).toNat)
    case atStart => exact ⟨0, by omega, rfl, ⟨rfl⟩, ⟨Below.refl _ _⟩⟩
    case round =>
      obtain ⟨k, hk, rfl, HE, HB⟩ := hrel
      by_cases hlt : k < a.length
      · have hlt2 : k < b.length := by have := HAB.out; omega
        have hb : decide ((k : Int) < (a.length : Int)) = true := by simp; omega
        obtain ⟨ad, A6, c6, e1, ⟨h0, h1, h2, h3, h4, h5, h6⟩, hc6, hC6⟩ := ent_at HA.out HB.out k hlt
        cases e1
        have hwa := below_alloc (Below.refl wr.heap.size wr) (.cells (entC a[k] (.slice A6 a[k].f2.f4.length c6)) 38)
        obtain ⟨bd, B6, d6, e1, ⟨g0, g1, g2, g3, g4, g5, g6⟩, hd6, hD6⟩ := ent_at HA'.out (HB.out.trans (hwa.mono HB.out.size)) k hlt2
        cases e1
        have hwb := hwa.trans ((below_alloc (Below.refl _ (wr.alloc (.cells (entC a[k] (.slice A6 a[k].f2.f4.length c6)) 38))) (.cells (entC b[k] (.slice B6 b[k].f2.f4.length d6)) 38)).mono hwa.size)
        have HWB := Aside0.mk hwb
        have HSM := Aside0.mk (entry_Same' ((wr.alloc (.cells (entC a[k] (.slice A6 a[k].f2.f4.length c6)) 38)).alloc (.cells (entC b[k] (.slice B6 b[k].f2.f4.length d6)) 38)) A6 B6 c6 d6 a[k] b[k] (Kd.C_below hC6 hwb) hc6 (Kd.C_alloc hD6 _) hd6)
        have HDR := Aside0.mk (HE.out.symm.trans (eqBy_drop sameEnt a b k hlt hlt2))
        clear hC6 hD6 hc6 hd6 hwa hwb HE
        have hq := cell_blk g0
        generalize hs : sameEnt a[k] b[k] = s at HSM HDR
        clear hs
        generalize a[k] = x at *
        generalize b[k] = y at *
        go_upto_if 30 with (first | (go_at_call 42; refine HSM.out.mono ?_; rintro en w2 ⟨rfl, hb⟩; have HB2 := Aside0.mk (HB.out.trans ((HWB.out.trans (hb.mono HWB.out.size)).mono HB.out.size)); clear hb))
        cases s
        · go_wp2_with fail
          go_ret
          exact ⟨by rw [HDR.out]; rfl, HB2.out⟩
        · have hwk := wrap_next a.length k hlt HLM.out
          go_wp2_with fail
          go_roundw
          case rel => exact ⟨k + 1, by omega, by rw [hwk], ⟨by rw [HDR.out]; rfl⟩, HB2⟩
          case measure => exact meas_step a.length k hlt hwk
      · have hb : decide ((k : Int) < (a.length : Int)) = false := by simp; omega
        obtain rfl : k = a.length := by omega
        go_wp2_with fail
        go_ret
        refine ⟨?_, HB.out⟩
        rw [← HE.out, List.drop_length, List.drop_of_length_le (by have := HAB.out; omega)]
        rfl
  · have hd : ((a.length : Int) != (b.length : Int)) = true := by rw [bne_iff_ne]; omega
    have HE := Aside0.mk (eqBy_len (f := sameEnt) hab)
    clear hab
    go_enter Tryd.func85, Tryd.ntmps85
    go_wp2_with fail
    go_ret
    exact ⟨by rw [HE.out]; rfl, Below.refl _ _⟩
theorem entry_SameRow (w : World) (A A' : Option Addr) (c c' : Nat) (a b : List Ent) (hA : kEnt.C w A a.length a) (hc : a.length ≤ c) (hA' : kEnt.C w A' b.length b) (hc' : b.length ≤ c') :
    Calls Tryd.prog 49 #[.slice A a.length c, .slice A' b.length c'] w fun en w' => en = .returned (.bool (eqBy sameEnt a b)) ∧ Below w.heap.size w w' := by
  have HE := Aside0.mk (equalFunc w A A' c c' a b hA hc hA' hc')
  clear hA hc hA' hc'
  go_enter Tryd.func49, Tryd.ntmps49
  go_wp2_with (first | (go_at_call 85; refine HE.out.mono ?_; rintro en w1 ⟨rfl, hb⟩; have HB := Aside0.mk hb; clear hb))
  go_ret
  exact ⟨rfl, HB.out⟩
end Go.Proofs.YtmeblifbkhpdnaaDoor.K
/- Contracts of record.has, numbers. -/
namespace Go.Proofs.YtmeblifbkhpdnaaDoor.K
set_option linter.unusedVariables false
set_option linter.unusedSimpArgs false
open Go.RowKit Go.Proofs.YtmeblifbkhpdnaaDoorW.PrintWords Go.Proofs.YtmeblifbkhpdnaaDoorW.PrintLast Go.Proofs.YtmeblifbkhpdnaaDoorW.PrintMore
def rTab : List Int := [0, 2, 5, 11]
/-- The table of record's kinds lies in its block. -/
def GRec (w : World) : Prop := ∀ j : Nat, j < 4 → w.cell? ⟨0, j, none⟩ = some (.int .i64 (rd rTab (j : Int)))
theorem GRec.lt {w : World} (h : GRec w) : 0 < w.heap.size := cell_blk (h 0 (by omega))
theorem GRec.keep {w w' : World} {n : Nat} (h : GRec w) (hb : Below n w w') (hn : 0 < n) : GRec w' := fun j hj => (hb.cell (p := ⟨0, j, none⟩) hn).trans (h j hj)
theorem GRec.below {w w' : World} (h : GRec w) (hb : Below w.heap.size w w') : GRec w' := h.keep hb h.lt
def rHas (k : Int) : Int := if k < 1 then 0 else if 3 < k then 0 else rd rTab k
set_option maxHeartbeats 800000 in
theorem record_has (w : World) (k : Int) (hG : GRec w) :
    Calls Tryd.prog 32 #[.int .i64 k] w fun en w' => en = .returned (.int .i64 (rHas k)) ∧ w = w' := by
  have HG := Aside0.mk hG
  clear hG
  have hR : rHas k = if k < 1 then 0 else if 3 < k then 0 else rd rTab k := rfl
  by_cases h1 : k < 1
  · have d1 : decide (k < 1) = true := by simpa using h1
    rw [if_pos h1] at hR
    have HR := Aside0.mk hR
    clear hR h1
    go_enter Tryd.func32, Tryd.ntmps32
    go_wp2_with fail
    go_ret
    exact ⟨by rw [HR.out]; rfl, rfl⟩
  · have d1 : decide (k < 1) = false := by simpa using h1
    rw [if_neg h1] at hR
    by_cases h2 : 3 < k
    · have d2 : decide (3 < k) = true := by simpa using h2
      rw [if_pos h2] at hR
      have HR := Aside0.mk hR
      clear hR h1 h2
      go_enter Tryd.func32, Tryd.ntmps32
      go_wp2_with fail
      go_ret
      exact ⟨by rw [HR.out]; rfl, rfl⟩
    · have d2 : decide (3 < k) = false := by simpa using h2
      rw [if_neg h2] at hR
      have HR := Aside0.mk hR
      obtain ⟨j, rfl⟩ := Int.eq_ofNat_of_zero_le (show 0 ≤ k by omega)
      have hc := HG.out j (by omega)
      have h4 : (j : Int) < 4 := by omega
      clear hR
      go_enter Tryd.func32, Tryd.ntmps32
      go_wp2_with fail
      go_ret
      exact ⟨by rw [HR.out]; rfl, rfl⟩
/-- What numbers tells of a record's box. -/
abbrev numsV (b : Nat) : Value := .agg #[.pointer (some ⟨b, 3, none⟩), .int .i64 1, .pointer (some ⟨b, 1, none⟩), .int .i64 2, .pointer (some ⟨b, 2, none⟩), .int .i64 2]
theorem num_box {W : World} {b : Nat} {y0 y1 y2 y3 y4 y5 : Value} {t : TypeId} (h : W.heap[b]? = some (.cells #[y0, y1, y2, y3, y4, y5] t (0, 0))) (v0 v1 v2 v3 v4 v5 : Value) :
    ((((((W.setCell ⟨b, 0, none⟩ v0).setCell ⟨b, 1, none⟩ v1).setCell ⟨b, 2, none⟩ v2).setCell ⟨b, 3, none⟩ v3).setCell ⟨b, 4, none⟩ v4).setCell ⟨b, 5, none⟩ v5).heap[b]? = some (.cells #[v0, v1, v2, v3, v4, v5] t (0, 0)) := by
  have h0 := blk_put h 0 v0 (cs' := #[v0, y1, y2, y3, y4, y5]) rfl
  have h1 := blk_put h0 1 v1 (cs' := #[v0, v1, y2, y3, y4, y5]) rfl
  have h2 := blk_put h1 2 v2 (cs' := #[v0, v1, v2, y3, y4, y5]) rfl
  have h3 := blk_put h2 3 v3 (cs' := #[v0, v1, v2, v3, y4, y5]) rfl
  have h4 := blk_put h3 4 v4 (cs' := #[v0, v1, v2, v3, v4, y5]) rfl
  exact blk_put h4 5 v5 (cs' := #[v0, v1, v2, v3, v4, v5]) rfl
abbrev NumS (w : World) (W : World) : Prop :=
  W.cell? ⟨w.heap.size, 0, none⟩ = some (.pointer none) ∧ W.cell? ⟨w.heap.size, 1, none⟩ = some (.int .i64 0) ∧ W.cell? ⟨w.heap.size, 2, none⟩ = some (.pointer none) ∧ W.cell? ⟨w.heap.size, 3, none⟩ = some (.int .i64 0) ∧ W.cell? ⟨w.heap.size, 4, none⟩ = some (.pointer none) ∧ W.cell? ⟨w.heap.size, 5, none⟩ = some (.int .i64 0) ∧
  W.frozen? ⟨w.heap.size, 0, none⟩ = false ∧ W.frozen? ⟨w.heap.size, 1, none⟩ = false ∧ W.frozen? ⟨w.heap.size, 2, none⟩ = false ∧ W.frozen? ⟨w.heap.size, 3, none⟩ = false ∧ W.frozen? ⟨w.heap.size, 4, none⟩ = false ∧ W.frozen? ⟨w.heap.size, 5, none⟩ = false ∧
  Aside0 (W.heap[w.heap.size]? = some (.cells #[.pointer none, .int .i64 0, .pointer none, .int .i64 0, .pointer none, .int .i64 0] 66 (0, 0))) ∧ Aside0 (Below w.heap.size w W)
theorem NumS.of {w W : World} (h : W.heap[w.heap.size]? = some (.cells #[.pointer none, .int .i64 0, .pointer none, .int .i64 0, .pointer none, .int .i64 0] 66 (0, 0))) (hb : Below w.heap.size w W) : NumS w W :=
  ⟨blk_cell h 0, blk_cell h 1, blk_cell h 2, blk_cell h 3, blk_cell h 4, blk_cell h 5, blk_frozen h 0, blk_frozen h 1, blk_frozen h 2, blk_frozen h 3, blk_frozen h 4, blk_frozen h 5, ⟨h⟩, ⟨hb⟩⟩
theorem NumS.drew {w W : World} (h : NumS w W) : NumS w W.drew := NumS.of (blk_drew h.2.2.2.2.2.2.2.2.2.2.2.2.1.out) h.2.2.2.2.2.2.2.2.2.2.2.2.2.out.drew
set_option maxRecDepth 20000 in
set_option maxHeartbeats 4000000 in
theorem record_numbers (w : World) (b : Nat) :
    Calls Tryd.prog 33 #[.pointer (some ⟨b, 0, none⟩)] w fun en w' => en = .returned (numsV b) ∧ Below w.heap.size w w' := by
  go_enter Tryd.func33, Tryd.ntmps33
  go_wp2_with fail
  have hS := NumS.of (blk_new w (.cells #[.pointer none, .int .i64 0, .pointer none, .int .i64 0, .pointer none, .int .i64 0] 66)) (below_alloc (Below.refl w.heap.size w) _)
  obtain ⟨W, hW⟩ : ∃ W, W = w.alloc (.cells #[.pointer none, .int .i64 0, .pointer none, .int .i64 0, .pointer none, .int .i64 0] 66) := ⟨_, rfl⟩
  rw [← hW] at hS ⊢
  clear hW
  obtain ⟨_, _, _, _, _, _, _, _, _, _, _, _, HBX, HB⟩ := hS.drew
  refine wp_region_held_drew (S := fun w' => Aside0 (Below w.heap.size w w')) (by kernel_rfl) HB (fun hHeld => ?_)
  refine takeH (i := 0) (some 3) (v := ?_) rfl rfl (by kernel_rfl) (by kernel_rfl) (by kernel_rfl) (fun _ _ _ h => h) (Or.inl ⟨by kernel_rfl, ?_⟩) (by assumption) ?_
  rotate_left
  · (rintro w' hs; go_simp; first | done | with_reducible rfl)
  simp only [Act.put, List.setIfInBounds_toArray, List.set_cons_zero, List.set_cons_succ]
  refine takeH (i := 1) (some 4) (v := ?_) rfl rfl (by kernel_rfl) (by kernel_rfl) (by kernel_rfl) (fun _ _ _ h => h) (Or.inl ⟨by kernel_rfl, ?_⟩) (by assumption) ?_
  rotate_left
  · (rintro w' hs; go_simp; first | done | with_reducible rfl)
  simp only [Act.put, List.setIfInBounds_toArray, List.set_cons_zero, List.set_cons_succ]
  refine takeH (i := 2) (some 5) (v := ?_) rfl rfl (by kernel_rfl) (by kernel_rfl) (by kernel_rfl) (fun _ _ _ h => h) (Or.inl ⟨by kernel_rfl, ?_⟩) (by assumption) ?_
  rotate_left
  · (rintro w' hs; go_simp; first | done | with_reducible rfl)
  simp only [Act.put, List.setIfInBounds_toArray, List.set_cons_zero, List.set_cons_succ]
  refine takeH (i := 3) (some 6) (v := ?_) rfl rfl (by kernel_rfl) (by kernel_rfl) (by kernel_rfl) (fun _ _ _ h => h) (Or.inl ⟨by kernel_rfl, ?_⟩) (by assumption) ?_
  rotate_left
  · (rintro w' hs; go_simp; first | done | with_reducible rfl)
  simp only [Act.put, List.setIfInBounds_toArray, List.set_cons_zero, List.set_cons_succ]
  refine takeH (i := 4) (some 7) (v := ?_) rfl rfl (by kernel_rfl) (by kernel_rfl) (by kernel_rfl) (fun _ _ _ h => h) (Or.inl ⟨by kernel_rfl, ?_⟩) (by assumption) ?_
  rotate_left
  · (rintro w' hs; go_simp; first | done | with_reducible rfl)
  simp only [Act.put, List.setIfInBounds_toArray, List.set_cons_zero, List.set_cons_succ]
  refine takeH (i := 5) (some 8) (v := ?_) rfl rfl (by kernel_rfl) (by kernel_rfl) (by kernel_rfl) (fun _ _ _ h => h) (Or.inl ⟨by kernel_rfl, ?_⟩) (by assumption) ?_
  rotate_left
  · (rintro w' hs; go_simp; first | done | with_reducible rfl)
  simp only [Act.put, List.setIfInBounds_toArray, List.set_cons_zero, List.set_cons_succ]
  refine takeH (i := 6) (some 9) (v := ?_) rfl rfl (by kernel_rfl) (by kernel_rfl) (by kernel_rfl) (fun _ _ _ h => h) (Or.inl ⟨by kernel_rfl, ?_⟩) (by assumption) ?_
  rotate_left
  · (rintro w' hs; go_simp; first | done | with_reducible rfl)
  simp only [Act.put, List.setIfInBounds_toArray, List.set_cons_zero, List.set_cons_succ]
  refine takeH (i := 7) (some 10) (v := ?_) rfl rfl (by kernel_rfl) (by kernel_rfl) (by kernel_rfl) (fun _ _ _ h => h) (Or.inl ⟨by kernel_rfl, ?_⟩) (by assumption) ?_
  rotate_left
  · (rintro w' hs; go_simp; first | done | with_reducible rfl)
  simp only [Act.put, List.setIfInBounds_toArray, List.set_cons_zero, List.set_cons_succ]
  refine takeH (i := 8) (some 11) (v := ?_) rfl rfl (by kernel_rfl) (by kernel_rfl) (by kernel_rfl) (fun _ _ _ h => h) (Or.inl ⟨by kernel_rfl, ?_⟩) (by assumption) ?_
  rotate_left
  · (rintro w' hs; go_simp; first | done | with_reducible rfl)
  simp only [Act.put, List.setIfInBounds_toArray, List.set_cons_zero, List.set_cons_succ]
  refine takeH (i := 9) (some 12) (v := ?_) rfl rfl (by kernel_rfl) (by kernel_rfl) (by kernel_rfl) (fun _ _ _ h => h) (Or.inl ⟨by kernel_rfl, ?_⟩) (by assumption) ?_
  rotate_left
  · (rintro w' hs; go_simp; first | done | with_reducible rfl)
  simp only [Act.put, List.setIfInBounds_toArray, List.set_cons_zero, List.set_cons_succ]
  refine takeH (i := 10) (some 13) (v := ?_) rfl rfl (by kernel_rfl) (by kernel_rfl) (by kernel_rfl) (fun _ _ _ h => h) (Or.inl ⟨by kernel_rfl, ?_⟩) (by assumption) ?_
  rotate_left
  · (rintro w' hs; go_simp; first | done | with_reducible rfl)
  simp only [Act.put, List.setIfInBounds_toArray, List.set_cons_zero, List.set_cons_succ]
  refine takeH (i := 11) (some 14) (v := ?_) rfl rfl (by kernel_rfl) (by kernel_rfl) (by kernel_rfl) (fun _ _ _ h => h) (Or.inl ⟨by kernel_rfl, ?_⟩) (by assumption) ?_
  rotate_left
  · (rintro w' hs; go_simp; first | done | with_reducible rfl)
  simp only [Act.put, List.setIfInBounds_toArray, List.set_cons_zero, List.set_cons_succ]
  refine takeH (i := 12) (some 15) (v := ?_) rfl rfl (by kernel_rfl) (by kernel_rfl) (by kernel_rfl) (fun _ _ _ h => h) (Or.inl ⟨by kernel_rfl, ?_⟩) (by assumption) ?_
  rotate_left
  · (rintro w' hs; go_simp; first | done | with_reducible rfl)
  simp only [Act.put, List.setIfInBounds_toArray, List.set_cons_zero, List.set_cons_succ]
  refine wpAnyH_ready (rs := [13]) (by kernel_rfl) (by simp) ?_
  refine AllReadyH.cons rfl (fun K hK => ?_) AllReadyH.nil
  obtain ⟨c0, c1, c2, c3, c4, c5, f0, f1, f2, f3, f4, f5, HBX0, HB0⟩ := hS
  go_simp
  refine hK.out _ _ ?_ (fun hHeld => ?_)
  · exact ⟨below_drew (below_set (below_set (below_set (below_set (below_set (below_set HB0.out (Nat.le_refl _)) (Nat.le_refl _)) (Nat.le_refl _)) (Nat.le_refl _)) (Nat.le_refl _)) (Nat.le_refl _))⟩
  clear hK K
  try simp only [Act.put, List.setIfInBounds_toArray, List.set_cons_zero, List.set_cons_succ]
  refine wpAnyH_done (by kernel_rfl) ?_ _
  have hbx := blk_drew (num_box HBX0.out (.pointer (some ⟨b, 3, none⟩)) (.int .i64 1) (.pointer (some ⟨b, 1, none⟩)) (.int .i64 2) (.pointer (some ⟨b, 2, none⟩)) (.int .i64 2))
  have hbl := below_drew (below_set (below_set (below_set (below_set (below_set (below_set HB0.out (Nat.le_refl _) (v := .pointer (some ⟨b, 3, none⟩)) (j := 0)) (Nat.le_refl _) (v := .int .i64 1) (j := 1)) (Nat.le_refl _) (v := .pointer (some ⟨b, 1, none⟩)) (j := 2)) (Nat.le_refl _) (v := .int .i64 2) (j := 3)) (Nat.le_refl _) (v := .pointer (some ⟨b, 2, none⟩)) (j := 4)) (Nat.le_refl _) (v := .int .i64 2) (j := 5))
  have HL := Aside0.mk hbl
  have HX := Aside0.mk hbx
  clear hbl hbx
  go_wp2_with fail
  exact bodyPost_ret (results_cell_row rfl _ _ w.heap.size 66 _ (0, 0) _ rfl HX.out Tryd.underlying66 rfl (by kernel_rfl)) rfl ⟨rfl, HL.out⟩
end Go.Proofs.YtmeblifbkhpdnaaDoor.K
/- Contracts of record.Check$1, slices.IndexFunc, ContainsFunc of entries. -/
namespace Go.Proofs.YtmeblifbkhpdnaaDoor.K
set_option linter.unusedVariables false
set_option linter.unusedSimpArgs false
open Go.RowKit Go.Proofs.YtmeblifbkhpdnaaDoorW.PrintWords Go.Proofs.YtmeblifbkhpdnaaDoorW.PrintLast Go.Proofs.YtmeblifbkhpdnaaDoorW.PrintMore
theorem entE_ne (x : Ent) : (entE x != 0) = !(entOk x) := by
  unfold entE
  cases entOk x <;> rfl
set_option maxRecDepth 20000 in
set_option maxHeartbeats 4000000 in
theorem record_Check_1 (w : World) (A : Option Addr) (c : Nat) (x : Ent) (hG : GItem w) (hA : kLine.C w A x.f2.f4.length x.f2.f4) (hc : x.f2.f4.length ≤ c) :
    Calls Tryd.prog 44 #[entV x (.slice A x.f2.f4.length c)] w fun en w' => en = .returned (.bool (!(entOk x))) ∧ Below w.heap.size w w' := by
  have hwa := below_alloc (Below.refl w.heap.size w) (.cells (entC x (.slice A x.f2.f4.length c)) 38)
  have HCK := Aside0.mk (entry_Check _ A c x (hG.below hwa) (Kd.C_below hA hwa) hc)
  have HW := Aside0.mk hwa
  have HE := Aside0.mk (entE_ne x)
  clear hG hA hc hwa
  go_enter Tryd.func44, Tryd.ntmps44
  go_wp2_with (first | (go_at_call 41; refine HCK.out.mono ?_; rintro en w1 ⟨rfl, hb⟩; have HB := Aside0.mk (HW.out.trans (hb.mono HW.out.size)); clear hb))
  go_ret
  exact ⟨by rw [← HE.out]; rfl, HB.out⟩
set_option maxRecDepth 20000 in
set_option maxHeartbeats 4000000 in
theorem indexFunc (w : World) (A : Option Addr) (c : Nat) (l : List Ent) (hG : GItem w) (hA : kEnt.C w A l.length l) (hc : l.length ≤ c) :
    Calls Tryd.prog 83 #[.slice A l.length c, .func (.func 44) #[] #[]] w fun en w' => ∃ r : Int, en = .returned (.int .i64 r) ∧ decide (0 ≤ r) = !(l.all entOk) ∧ Below w.heap.size w w' := by
  have HG := Aside0.mk hG
  have HA := Aside0.mk hA
  have hlm : l.length ≤ maxLen := hA.2.1
  have HLM := Aside0.mk hlm
  clear hA hlm hG
  go_enter Tryd.func83, Tryd.ntmps83
  go_wp2_with fail
  go_loopw [8] (fun v wr => ∃ (k : Nat), k ≤ l.length ∧ v = .int .i64 k ∧ Aside0 ((l.take k).all entOk = true) ∧ Aside0 (Below w.heap.size w wr)) (fun v _ => l.length - (intOf v).toNat)
  case atStart => exact ⟨0, by omega, rfl, ⟨rfl⟩, ⟨Below.refl _ _⟩⟩
  case round =>
    obtain ⟨k, hk, rfl, HE, HB⟩ := hrel
    by_cases hlt : k < l.length
    · have hb : decide ((k : Int) < (l.length : Int)) = true := by simp; omega
      obtain ⟨ad, A6, c6, e1, ⟨h0, h1, h2, h3, h4, h5, h6⟩, hc6, hC6⟩ := ent_at HA.out HB.out k hlt
      cases e1
      have HT := Aside0.mk (takeE_snoc l k hlt)
      have HBAD := Aside0.mk (all_bad l k hlt)
      generalize l[k] = x at *
      have HCK := Aside0.mk (record_Check_1 wr A6 c6 x (HG.out.keep HB.out HG.out.lt) hC6 hc6)
      clear hC6 hc6
      go_upto_if 16 with (first | (go_at_call 44; refine HCK.out.mono ?_; rintro en w2 ⟨rfl, hb⟩; have HB2 := Aside0.mk (HB.out.trans (hb.mono HB.out.size)); clear hb))
      cases hok : entOk x
      · have HBD := Aside0.mk (HBAD.out hok)
        go_wp2_with fail
        go_ret
        exact ⟨(k : Int), rfl, by rw [HBD.out]; simp, HB2.out⟩
      · have HOK := Aside0.mk hok
        have hwk := wrap_next l.length k hlt HLM.out
        go_wp2_with fail
        go_roundw
        case rel => exact ⟨k + 1, by omega, by rw [hwk], ⟨by rw [HT.out, List.all_append, HE.out]; simp [HOK.out]⟩, HB2⟩
        case measure => exact meas_step l.length k hlt hwk
    · have hb : decide ((k : Int) < (l.length : Int)) = false := by simp; omega
      obtain rfl : k = l.length := by omega
      have hall := HE.out
      rw [List.take_length] at hall
      have HALL := Aside0.mk hall
      clear hall
      go_wp2_with fail
      go_ret
      exact ⟨-1, rfl, by rw [HALL.out]; decide, HB.out⟩
set_option maxRecDepth 20000 in
set_option maxHeartbeats 4000000 in
theorem containsFunc (w : World) (A : Option Addr) (c : Nat) (l : List Ent) (hG : GItem w) (hA : kEnt.C w A l.length l) (hc : l.length ≤ c) :
    Calls Tryd.prog 43 #[.slice A l.length c, .func (.func 44) #[] #[]] w fun en w' => en = .returned (.bool (!(l.all entOk))) ∧ Below w.heap.size w w' := by
  have HE := Aside0.mk (indexFunc w A c l hG hA hc)
  clear hG hA hc
  go_enter Tryd.func43, Tryd.ntmps43
  go_wp2_with (first | (go_at_call 83; refine HE.out.mono ?_; rintro en w1 ⟨r, rfl, hr, hb⟩; have HB := Aside0.mk hb; have HR := Aside0.mk hr; clear hb hr))
  go_ret
  exact ⟨by rw [← HR.out]; rfl, HB.out⟩
end Go.Proofs.YtmeblifbkhpdnaaDoor.K
/- Contract of record.Check. -/
namespace Go.Proofs.YtmeblifbkhpdnaaDoor.K
set_option linter.unusedVariables false
set_option linter.unusedSimpArgs false
open Go.RowKit Go.Proofs.YtmeblifbkhpdnaaDoorW.PrintWords Go.Proofs.YtmeblifbkhpdnaaDoorW.PrintLast Go.Proofs.YtmeblifbkhpdnaaDoorW.PrintMore
abbrev Rec := S41
def kRec : Kd Rec := k41
/-- The cells of a record. -/
abbrev recC (x : Rec) (v u : Value) : Array Value := #[.int .i64 x.f0, .int .i64 x.f1, .int .i64 x.f2, .int .i64 x.f3, .int .i64 x.f4.f0, .int .i64 x.f4.f1, .int .i64 x.f4.f2.f0, .string x.f4.f2.f1, .int .i64 x.f4.f2.f2, .int .i64 x.f4.f2.f3, v, u]
abbrev recV (x : Rec) (v u : Value) : Value := .agg (recC x v u)
def numOk (own n what : Int) : Bool := (n == 0) || ((bits .and .i64 own what != 0) && (decide (0 < n) && decide (n ≤ 9007199254740991)))
theorem entE_eq (x : Ent) : (entE x == 0) = entOk x := by
  unfold entE
  cases entOk x <;> rfl
/-- The numbers of a record, where they lie, what a kind must have for each. -/
def nOff (k : Nat) : Nat := if k = 0 then 3 else k
def nWhat (k : Nat) : Int := if k = 0 then 1 else 2
def nVal (x : Rec) (k : Nat) : Int := if k = 0 then x.f3 else if k = 1 then x.f1 else x.f2
def okN (own : Int) (x : Rec) : Nat → Bool
  | 0 => own != 0
  | k + 1 => okN own x k && numOk own (nVal x k) (nWhat k)
def okE (own : Int) (x : Rec) : Bool := okN own x 3 && (if bits .and .i64 own 4 != 0 then decide (0 < x.f3) && entOk x.f4 else sameEnt x.f4 zEnt)
def recOk (x : Rec) : Bool := okE (rHas x.f0) x && (x.f5.all entOk && (decide (x.f5.length ≤ 24) && !((bits .and .i64 (rHas x.f0) 8 == 0) && decide (0 < x.f5.length))))
def recE (x : Rec) : Int := if recOk x then 0 else 2
theorem nums_index (b k : Nat) (hk : k < 3) (W : World) : (Instr.index 66 (numsV b) (.int .i64 (k : Int))).run Tryd.prog W = .ok (.agg #[.pointer (some ⟨b, nOff k, none⟩), .int .i64 (nWhat k)]) W := by
  have : k = 0 ∨ k = 1 ∨ k = 2 := by omega
  rcases this with rfl | rfl | rfl
  · show (Instr.index 66 (numsV b) (.int .i64 0)).run Tryd.prog W = .ok (.agg #[.pointer (some ⟨b, 3, none⟩), .int .i64 1]) W
    kernel_rfl
  · show (Instr.index 66 (numsV b) (.int .i64 1)).run Tryd.prog W = .ok (.agg #[.pointer (some ⟨b, 1, none⟩), .int .i64 2]) W
    kernel_rfl
  · show (Instr.index 66 (numsV b) (.int .i64 2)).run Tryd.prog W = .ok (.agg #[.pointer (some ⟨b, 2, none⟩), .int .i64 2]) W
    kernel_rfl
theorem nums_cell {W : World} {b : Nat} {x : Rec} {v u : Value} (h : W.heap[b]? = some (.cells (recC x v u) 41 (0, 0))) (k : Nat) (hk : k < 3) : W.cell? ⟨b, nOff k, none⟩ = some (.int .i64 (nVal x k)) := by
  have : k = 0 ∨ k = 1 ∨ k = 2 := by omega
  rcases this with rfl | rfl | rfl
  · exact blk_cell h 3
  · exact blk_cell h 1
  · exact blk_cell h 2
set_option maxRecDepth 20000 in
set_option maxHeartbeats 4000000 in
theorem record_Check (w : World) (A B : Option Addr) (c d : Nat) (x : Rec) (hG : GItem w) (hH : GRec w) (hA : kLine.C w A x.f4.f2.f4.length x.f4.f2.f4) (hc : x.f4.f2.f4.length ≤ c) (hB : kEnt.C w B x.f5.length x.f5) (hd : x.f5.length ≤ d) :
    Calls Tryd.prog 17 #[recV x (.slice A x.f4.f2.f4.length c) (.slice B x.f5.length d)] w fun en w' => en = .returned (.int .i64 (recE x)) ∧ Below w.heap.size w w' := by
  have HG := Aside0.mk hG
  have HH := Aside0.mk hH
  have HA := Aside0.mk hA
  have HC := Aside0.mk hc
  have HBB := Aside0.mk hB
  have HD := Aside0.mk hd
  clear hG hH hA hc hB hd
  have HB0 := Aside0.mk (below_alloc (Below.refl w.heap.size w) (.cells (recC x (.slice A x.f4.f2.f4.length c) (.slice B x.f5.length d)) 41))
  have HX0 := Aside0.mk (blk_new w (.cells (recC x (.slice A x.f4.f2.f4.length c) (.slice B x.f5.length d)) 41))
  have HHAS := Aside0.mk (record_has _ x.f0 (HH.out.below HB0.out))
  have HNUM := Aside0.mk (record_numbers (w.alloc (.cells (recC x (.slice A x.f4.f2.f4.length c) (.slice B x.f5.length d)) 41)) w.heap.size)
  have hown : recOk x = (okE (rHas x.f0) x && (x.f5.all entOk && (decide (x.f5.length ≤ 24) && !((bits .and .i64 (rHas x.f0) 8 == 0) && decide (0 < x.f5.length))))) := rfl
  generalize rHas x.f0 = own at HHAS hown
  have HOK := Aside0.mk hown
  clear hown
  have h00 : (own != 0) = okN own x 0 := rfl
  go_enter Tryd.func17, Tryd.ntmps17
  go_wp2_with (first | (go_at_call 32; refine HHAS.out.mono ?_; rintro en w1 ⟨rfl, rfl⟩) | (go_at_call 33; refine HNUM.out.mono ?_; rintro en w1 ⟨rfl, hb⟩; have HB1 := Aside0.mk (HB0.out.trans (hb.mono HB0.out.size)); have HX1 := Aside0.mk (blk_below HX0.out hb); clear hb))
  go_loopw [4, 14] (fun s4 v wr => ∃ k : Nat, k ≤ 3 ∧ v = .int .i64 (k : Int) ∧ s4 = .bool (okN own x k) ∧ Aside0 (wr.heap[w.heap.size]? = some (.cells (recC x (.slice A x.f4.f2.f4.length c) (.slice B x.f5.length d)) 41 (0, 0))) ∧ Aside0 (Below w.heap.size w wr)) (fun _ v _ => 3 - (intOf v).toNat)
  case atStart => exact ⟨0, by omega, rfl, rfl, HX1, HB1⟩
  case round =>
    clear HX0 HB0 HX1 HB1 HHAS HNUM
    obtain ⟨k, hk, rfl, rfl, HX, HB⟩ := hrel
    by_cases hlt : k < 3
    · have hb : decide ((k : Int) < 3) = true := by simp; omega
      have hix := nums_index w.heap.size k hlt
      have hcell := nums_cell HX.out k hlt
      have hs : okN own x (k + 1) = (okN own x k && numOk own (nVal x k) (nWhat k)) := rfl
      have HS := Aside0.mk hs
      have hno : numOk own (nVal x k) (nWhat k) = ((nVal x k == 0) || ((bits .and .i64 own (nWhat k) != 0) && (decide (0 < nVal x k) && decide (nVal x k ≤ 9007199254740991)))) := rfl
      have HNO := Aside0.mk hno
      clear hs hno
      generalize okN own x k = ok at *
      generalize nVal x k = n at *
      generalize nWhat k = what at *
      generalize nOff k = off at *
      have hw1 := below_alloc (Below.refl wr.heap.size wr) (.cells #[.pointer (some ⟨w.heap.size, off, none⟩), .int .i64 what] 65)
      have hcell1 := (hw1.cell (cell_blk hcell)).trans hcell
      have hp0 : (wr.alloc (.cells #[.pointer (some ⟨w.heap.size, off, none⟩), .int .i64 what] 65)).cell? ⟨wr.heap.size, 0, none⟩ = some (.pointer (some ⟨w.heap.size, off, none⟩)) := by simp
      have hp1 : (wr.alloc (.cells #[.pointer (some ⟨w.heap.size, off, none⟩), .int .i64 what] 65)).cell? ⟨wr.heap.size, 1, none⟩ = some (.int .i64 what) := by simp
      have HX1 := Aside0.mk (blk_below HX.out hw1)
      have HB1 := Aside0.mk (HB.out.trans (hw1.mono HB.out.size))
      go_upto_region 6 with fail
      clear hw1 HX HB hcell hix
      generalize wr.alloc (.cells #[.pointer (some ⟨w.heap.size, off, none⟩), .int .i64 what] 65) = W1 at *
      cases ok
      · go_wp2_with fail
        go_roundw
        case rel => exact ⟨k + 1, by omega, by go_num, by rw [HS.out]; rfl, HX1, HB1⟩
        case measure => (simp [intOf]; omega)
      · cases h1 : n == 0
        · cases h2 : bits .and .i64 own what != 0
          · go_wp2_with fail
            go_roundw
            case rel => exact ⟨k + 1, by omega, by go_num, by rw [HS.out, HNO.out, h1, h2]; rfl, HX1, HB1⟩
            case measure => (simp [intOf]; omega)
          · cases h3 : decide (0 < n)
            · go_wp2_with fail
              go_roundw
              case rel => exact ⟨k + 1, by omega, by go_num, by rw [HS.out, HNO.out, h1, h2, h3]; rfl, HX1, HB1⟩
              case measure => (simp [intOf]; omega)
            · cases h4 : decide (n ≤ 9007199254740991)
              · go_wp2_with fail
                go_roundw
                case rel => exact ⟨k + 1, by omega, by go_num, by rw [HS.out, HNO.out, h1, h2, h3, h4]; rfl, HX1, HB1⟩
                case measure => (simp [intOf]; omega)
              · go_wp2_with fail
                go_roundw
                case rel => exact ⟨k + 1, by omega, by go_num, by rw [HS.out, HNO.out, h1, h2, h3, h4]; rfl, HX1, HB1⟩
                case measure => (simp [intOf]; omega)
        · go_wp2_with fail
          go_roundw
          case rel => exact ⟨k + 1, by omega, by go_num, by rw [HS.out, HNO.out, h1]; rfl, HX1, HB1⟩
          case measure => (simp [intOf]; omega)
    · have hb : decide ((k : Int) < 3) = false := by simp; omega
      obtain rfl : k = 3 := by omega
      have h4b : okE own x = (okN own x 3 && (if bits .and .i64 own 4 != 0 then decide (0 < x.f3) && entOk x.f4 else sameEnt x.f4 zEnt)) := rfl
      have H4 := Aside0.mk h4b
      clear h4b h00
      obtain ⟨q0, q1, q2, q3, q4, q5, q6, q7, q8, q9, q10, q11⟩ : _ ∧ _ ∧ _ ∧ _ ∧ _ ∧ _ ∧ _ ∧ _ ∧ _ ∧ _ ∧ _ ∧ _ := ⟨blk_cell HX.out 0, blk_cell HX.out 1, blk_cell HX.out 2, blk_cell HX.out 3, blk_cell HX.out 4, blk_cell HX.out 5, blk_cell HX.out 6, blk_cell HX.out 7, blk_cell HX.out 8, blk_cell HX.out 9, blk_cell HX.out 10, blk_cell HX.out 11⟩
      simp only [List.getElem?_toArray, List.getElem?_cons_zero, List.getElem?_cons_succ] at q0 q1 q2 q3 q4 q5 q6 q7 q8 q9 q10 q11
      generalize okN own x 3 = ok3 at *
      go_upto_if 49 with fail
      go_cut [4] (fun s4 wx => s4 = .bool (okE own x) ∧ Aside0 (wx.heap[w.heap.size]? = some (.cells (recC x (.slice A x.f4.f2.f4.length c) (.slice B x.f5.length d)) 41 (0, 0))) ∧ Aside0 (Below w.heap.size w wx))
      case first =>
        have hsm : Calls Tryd.prog 42 #[entV x.f4 (.slice A x.f4.f2.f4.length c), .agg #[.int .i64 0, .int .i64 0, .int .i64 0, .string ⟨#[]⟩, .int .i64 0, .int .i64 0, .slice none 0 0]] wr fun en w' => en = .returned (.bool (sameEnt x.f4 zEnt)) ∧ Below wr.heap.size wr w' :=
          entry_Same' wr A none c 0 x.f4 zEnt (Kd.C_below HA.out (HB.out.mono (Nat.le_refl _))) HC.out (Kd.C_nil _ _) (Nat.le_refl _)
        have HSM := Aside0.mk hsm
        have HCK := Aside0.mk (entry_Check wr A c x.f4 (HG.out.keep HB.out HG.out.lt) (Kd.C_below HA.out HB.out) HC.out)
        have HEE := Aside0.mk (entE_eq x.f4)
        clear hsm
        cases h4 : bits .and .i64 own 4 != 0
        · cases ok3
          · go_wp2_with fail
            go_meet
            exact ⟨by rw [H4.out, h4]; rfl, HX, HB⟩
          · go_wp2_with (first | (go_at_call 42; refine HSM.out.mono ?_; rintro en w2 ⟨rfl, hb⟩; have HX2 := Aside0.mk (blk_below HX.out hb); have HB2 := Aside0.mk (HB.out.trans (hb.mono HB.out.size)); clear hb))
            go_meet
            exact ⟨by rw [H4.out, h4]; rfl, HX2, HB2⟩
        · cases ok3
          · go_wp2_with fail
            go_meet
            exact ⟨by rw [H4.out, h4]; rfl, HX, HB⟩
          · cases h0 : decide (0 < x.f3)
            · go_wp2_with fail
              go_meet
              exact ⟨by rw [H4.out, h4, h0]; rfl, HX, HB⟩
            · go_wp2_with (first | (go_at_call 41; refine HCK.out.mono ?_; rintro en w2 ⟨rfl, hb⟩; have HX2 := Aside0.mk (blk_below HX.out hb); have HB2 := Aside0.mk (HB.out.trans (hb.mono HB.out.size)); clear hb))
              go_meet
              exact ⟨by rw [H4.out, h4, h0, ← HEE.out]; rfl, HX2, HB2⟩
      case rest =>
        clear HX HB q0 q1 q2 q3 q4 q5 q6 q7 q8 q9 q10 q11 H4
        obtain ⟨rfl, HX, HB⟩ := hcut
        have q11 : wc.cell? ⟨w.heap.size, 11, none⟩ = some (.slice B x.f5.length d) := blk_cell HX.out 11
        have HCF := Aside0.mk (containsFunc wc B d x.f5 (HG.out.keep HB.out HG.out.lt) (Kd.C_below HBB.out HB.out) HD.out)
        generalize okE own x = okk at *
        have d24 : decide ((24 : Int) < (x.f5.length : Int)) = !(decide (x.f5.length ≤ 24)) := by rw [← decide_not]; congr 1; simp; omega
        have d0 : decide ((0 : Int) < (x.f5.length : Int)) = decide (0 < x.f5.length) := by congr 1; simp
        have hE : recE x = if recOk x then 0 else 2 := rfl
        rw [HOK.out] at hE
        have HE := Aside0.mk hE
        clear hE HOK
        go_upto_region 12 with (first | (go_at_call 43; refine HCF.out.mono ?_; rintro en w2 ⟨rfl, hb⟩; clear q11; have q11 : w2.cell? ⟨w.heap.size, 11, none⟩ = some (.slice B x.f5.length d) := blk_cell (blk_below HX.out hb) 11; have HB2 := Aside0.mk (HB.out.trans (hb.mono HB.out.size)); clear hb))
        cases okk
        · go_wp2_with fail
          go_ret
          exact ⟨by rw [HE.out]; rfl, HB2.out⟩
        · cases hall : x.f5.all entOk
          · go_wp2_with fail
            go_ret
            exact ⟨by rw [HE.out, hall]; rfl, HB2.out⟩
          · cases h24 : decide (x.f5.length ≤ 24)
            · rw [h24] at d24
              simp only [Bool.not_false] at d24
              go_wp2_with fail
              go_ret
              exact ⟨by rw [HE.out, hall, h24]; rfl, HB2.out⟩
            · rw [h24] at d24
              simp only [Bool.not_true] at d24
              cases h8 : bits .and .i64 own 8 == 0
              · go_wp2_with fail
                go_ret
                exact ⟨by rw [HE.out, hall, h24, h8]; rfl, HB2.out⟩
              · cases h0 : decide (0 < x.f5.length)
                · rw [h0] at d0
                  go_wp2_with fail
                  go_ret
                  exact ⟨by rw [HE.out, hall, h24, h8, h0]; rfl, HB2.out⟩
                · rw [h0] at d0
                  go_wp2_with fail
                  go_ret
                  exact ⟨by rw [HE.out, hall, h24, h8, h0]; rfl, HB2.out⟩
end Go.Proofs.YtmeblifbkhpdnaaDoor.K
