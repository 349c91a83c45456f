/- Contract of record.Bytes. -/
import Derived.Test.YtmeblifbkhpdnaaDoorGf
namespace Go.Proofs.YtmeblifbkhpdnaaDoor.K
set_option linter.unusedVariables false
set_option linter.unusedSimpArgs false
open Go.RowKit Go.Proofs.YtmeblifbkhpdnaaDoorW.PrintWords Go.Proofs.YtmeblifbkhpdnaaDoorW.PrintLast Go.Proofs.YtmeblifbkhpdnaaDoorW.PrintMore
def nB (own : Int) (x : Rec) (k : Nat) : List Int := if bits .and .i64 own (nWhat k) != 0 then vEnc (nVal x k).toNat else []
def bodyN (own : Int) (x : Rec) : Nat → List Int
  | 0 => [x.f0 % 256]
  | k + 1 => bodyN own x k ++ nB own x k
/-- A record's body. -/
def bodyO (own : Int) (x : Rec) : List Int := bodyN own x 3 ++ (if bits .and .i64 own 4 != 0 then entB x.f4 else []) ++ (if bits .and .i64 own 8 != 0 then vEnc (rowB x.f5).length ++ rowB x.f5 else [])
def body (x : Rec) : List Int := bodyO (rHas x.f0) x
def sealed (b : List Int) : List Int := beB 2 b.length ++ beB 2 (65535 - b.length) ++ b
/-- A record's bytes. -/
def recB (x : Rec) : List Int := sealed (body x) ++ beB 4 (crcI (sealed (body x))).toNat
def recR (x : Rec) : List Int := if recOk x then recB x else []
theorem numOk_range {own n what : Int} (h : numOk own n what = true) : 0 ≤ n ∧ n ≤ 9007199254740991 := by
  unfold numOk at h
  simp only [Bool.or_eq_true, Bool.and_eq_true, beq_iff_eq, decide_eq_true_eq] at h
  omega
/-- The parts of recOk. -/
theorem recOk_parts (x : Rec) (h : recOk x = true) : (∀ k, k < 3 → numOk (rHas x.f0) (nVal x k) (nWhat k) = true) ∧ (bits .and .i64 (rHas x.f0) 4 != 0) = true → entOk x.f4 = true := by
  intro ⟨_, h2⟩
  unfold recOk okE at h
  simp only [Bool.and_eq_true] at h
  have h3 := h.1.2
  rw [h2] at h3
  simp at h3
  exact h3.2
theorem recOk_nums (x : Rec) (h : recOk x = true) : rHas x.f0 ≠ 0 ∧ ∀ k, k < 3 → numOk (rHas x.f0) (nVal x k) (nWhat k) = true := by
  unfold recOk okE at h
  simp only [Bool.and_eq_true, okN] at h
  obtain ⟨⟨⟨⟨h0, h1⟩, h2⟩, h3⟩, _⟩ := h.1
  refine ⟨by simpa using h0, fun k hk => ?_⟩
  have : k = 0 ∨ k = 1 ∨ k = 2 := by omega
  rcases this with rfl | rfl | rfl <;> assumption
theorem recOk_rows (x : Rec) (h : recOk x = true) : x.f5.all entOk = true ∧ x.f5.length ≤ 24 := by
  unfold recOk at h
  simp only [Bool.and_eq_true, decide_eq_true_eq] at h
  exact ⟨h.2.1, h.2.2.1⟩
/-- The numbers in a record are Go's. -/
def RecW (x : Rec) : Prop := I64 x.f4.f2.f3 ∧ ∀ y ∈ x.f5, I64 y.f2.f3
theorem rowB_len (l : List Ent) (h : l.all entOk = true) (hw : ∀ y ∈ l, I64 y.f2.f3) (hl : l.length ≤ 24) : (rowB l).length ≤ 4378 := by
  have e1 := vEnc_ten l.length (by omega)
  have e2 := flatMap_len entT 182 l (fun y hy => entT_len y (List.all_eq_true.1 h y hy) (hw y hy))
  unfold rowB
  rw [List.length_append]
  omega
theorem nB_len (own : Int) (x : Rec) (k : Nat) (h : 0 ≤ nVal x k ∧ nVal x k ≤ 9007199254740991) : (nB own x k).length ≤ 10 := by
  unfold nB
  split
  · exact vEnc_ten _ (by omega)
  · simp
theorem bodyN_len (own : Int) (x : Rec) : ∀ k, k ≤ 3 → (∀ j, j < 3 → 0 ≤ nVal x j ∧ nVal x j ≤ 9007199254740991) → (bodyN own x k).length ≤ 1 + 10 * k
  | 0, _, _ => by simp [bodyN]
  | k + 1, hk, h => by
    have e1 := bodyN_len own x k (by omega) h
    have e2 := nB_len own x k (h k (by omega))
    simp only [bodyN, List.length_append]
    omega
theorem beB_len (K n : Nat) : (beB K n).length = K := by simp [beB]
theorem crcI_range (l : List Int) : 0 ≤ crcI l ∧ crcI l < 4294967296 := by
  unfold crcI
  have := (CrcMath.crc l).isLt
  omega
set_option maxRecDepth 20000 in
set_option maxHeartbeats 8000000 in
theorem record_Bytes (w : World) (A B : Option Addr) (c d : Nat) (x : Rec) (hG : GItem w) (hH : GRec w) (hA : kLine.C w A x.f4.f2.f4.length x.f4.f2.f4) (hc : x.f4.f2.f4.length ≤ c) (hB : kEnt.C w B x.f5.length x.f5) (hd : x.f5.length ≤ d) (hW : RecW x) :
    Calls Tryd.prog 14 #[recV x (.slice A x.f4.f2.f4.length c) (.slice B x.f5.length d)] w fun en w' => ∃ v, en = .returned (.tuple #[v, .int .i64 (recE x)]) ∧ Kd.R (Kd.int .u8) 5 w' w.heap.size (fun _ => True) v (recR x) ∧ Below w.heap.size w w' := by
  have HG := Aside0.mk hG
  have HH := Aside0.mk hH
  have HA := Aside0.mk hA
  have HC := Aside0.mk hc
  have HBB := Aside0.mk hB
  have HD := Aside0.mk hd
  have HRW := Aside0.mk hW
  clear hG hH hA hc hB hd hW
  have HB0 := Aside0.mk (below_alloc (Below.refl w.heap.size w) (.cells (recC x (.slice A x.f4.f2.f4.length c) (.slice B x.f5.length d)) 41))
  have HX0 := Aside0.mk (blk_new w (.cells (recC x (.slice A x.f4.f2.f4.length c) (.slice B x.f5.length d)) 41))
  have HCK := Aside0.mk (record_Check _ A B c d x (HG.out.below HB0.out) (HH.out.below HB0.out) (Kd.C_below HA.out HB0.out) HC.out (Kd.C_below HBB.out HB0.out) HD.out)
  have hE : recE x = if recOk x then 0 else 2 := rfl
  have hR : recR x = if recOk x then recB x else [] := rfl
  cases hok : recOk x
  · rw [hok] at hE hR
    simp only [Bool.false_eq_true, if_false] at hE hR
    rw [hE] at HCK
    have HE := Aside0.mk hE
    have HR := Aside0.mk hR
    clear hE hR hok
    go_enter Tryd.func14, Tryd.ntmps14
    go_wp2_with (first | (go_at_call 17; refine HCK.out.mono ?_; rintro en w1 ⟨rfl, hb⟩; have HB1 := Aside0.mk (HB0.out.trans (hb.mono HB0.out.size)); clear hb))
    go_ret2
    exact ⟨.slice none 0 0, by rw [HE.out]; rfl, by rw [HR.out]; exact Kd.R_nil _ _ _ _ _, HB1.out⟩
  · rw [hok] at hE hR
    simp only [if_true] at hE hR
    rw [hE] at HCK
    have HE := Aside0.mk hE
    have HR := Aside0.mk hR
    obtain ⟨_, hnum⟩ := recOk_nums x hok
    have hent := fun h => recOk_parts x hok ⟨hnum, h⟩
    have hrows := recOk_rows x hok
    have hbody : body x = bodyO (rHas x.f0) x := rfl
    have hwit : ∀ k, k < 3 → 0 ≤ nVal x k ∧ nVal x k ≤ 9007199254740991 := fun k hk => numOk_range (hnum k hk)
    have HHAS := Aside0.mk (fun W hb => record_has W x.f0 (HH.out.keep (n := w.heap.size) hb HH.out.lt))
    generalize rHas x.f0 = own at *
    have HWIT := Aside0.mk hwit
    have HENT := Aside0.mk hent
    have HROWS := Aside0.mk hrows
    have HBODY := Aside0.mk hbody
    clear hE hR hok hent hrows hbody hwit hnum
    go_enter Tryd.func14, Tryd.ntmps14
    go_upto_block 0 with (first
      | (go_at_call 17; refine HCK.out.mono ?_; rintro en w1 ⟨rfl, hb⟩; have HB1 := Aside0.mk (HB0.out.trans (hb.mono HB0.out.size)); have HX1 := Aside0.mk (blk_below HX0.out hb); have q0 : w1.cell? ⟨w.heap.size, 0, none⟩ = some (.int .i64 x.f0) := blk_cell HX1.out 0; have q0' : (w1.alloc (.cells #[.int .u8 (x.f0 % 256)] 5)).cell? ⟨w.heap.size, 0, none⟩ = some (.int .i64 x.f0) := blk_cell (blk_alloc HX1.out _) 0; clear hb)
      | (go_at_call 32; refine (HHAS.out w1 HB1.out).mono ?_; rintro en w2 ⟨rfl, rfl⟩)
      | (go_at_call 33; refine (record_numbers _ w.heap.size).mono ?_; rintro en w3 ⟨rfl, hb⟩; have hal := below_alloc (Below.refl w1.heap.size w1) (.cells #[.int .u8 (x.f0 % 256)] 5); have HB3 := Aside0.mk (HB1.out.trans ((hal.trans (hb.mono hal.size)).mono HB1.out.size)); have HX3 := Aside0.mk (blk_below (blk_alloc HX1.out (.cells #[.int .u8 (x.f0 % 256)] 5)) hb); have HO3 := Aside0.mk (Kd.R_below (one_lit 5 w.heap.size w1 (x.f0 % 256) HB1.out.size) hb); clear hb hal))
    clear q0 q0' HB1 HX1 HB0 HX0 HCK
    go_cut [6] (fun s6 wx => Aside0 (Kd.R (Kd.int .u8) 5 wx w.heap.size (fun _ => True) s6 (bodyN own x 3)) ∧ Aside0 (wx.heap[w.heap.size]? = some (.cells (recC x (.slice A x.f4.f2.f4.length c) (.slice B x.f5.length d)) 41 (0, 0))) ∧ Aside0 (Below w.heap.size w wx))
    case first =>
      go_wp2_with fail
      go_loopw [6, 28] (fun s6 v wr => ∃ k : Nat, k ≤ 3 ∧ v = .int .i64 (k : Int) ∧ Aside0 (Kd.R (Kd.int .u8) 5 wr w.heap.size (fun _ => True) s6 (bodyN own x k)) ∧ Aside0 (wr.heap[w.heap.size]? = some (.cells (recC x (.slice A x.f4.f2.f4.length c) (.slice B x.f5.length d)) 41 (0, 0))) ∧ Aside0 (Below w.heap.size w wr)) (fun _ v _ => 3 - (intOf v).toNat)
      case atStart => exact ⟨0, by omega, rfl, HO3, HX3, HB3⟩
      case round =>
        clear HO3 HX3 HB3
        obtain ⟨k, hk, rfl, HO, HX, HB⟩ := hrel
        by_cases hlt : k < 3
        · have hb : decide ((k : Int) < 3) = true := by simp; omega
          have hix := nums_index w.heap.size k hlt
          have hcell := nums_cell HX.out k hlt
          have hw1 := below_alloc (Below.refl wr.heap.size wr) (.cells #[.pointer (some ⟨w.heap.size, nOff k, none⟩), .int .i64 (nWhat k)] 65)
          have hcell1 := (hw1.cell (cell_blk hcell)).trans hcell
          have hp0 : (wr.alloc (.cells #[.pointer (some ⟨w.heap.size, nOff k, none⟩), .int .i64 (nWhat k)] 65)).cell? ⟨wr.heap.size, 0, none⟩ = some (.pointer (some ⟨w.heap.size, nOff k, none⟩)) := by simp
          have hp1 : (wr.alloc (.cells #[.pointer (some ⟨w.heap.size, nOff k, none⟩), .int .i64 (nWhat k)] 65)).cell? ⟨wr.heap.size, 1, none⟩ = some (.int .i64 (nWhat k)) := by simp
          have HX1 := Aside0.mk (blk_below HX.out hw1)
          have HB1 := Aside0.mk (HB.out.trans (hw1.mono HB.out.size))
          have HO1 := Aside0.mk (Kd.R_below HO.out hw1)
          have hrg := HWIT.out k hlt
          have hwn : IntKind.u64.wrap (nVal x k) = nVal x k := wrap_u64 _ (by omega) (by omega)
          obtain ⟨A1, c1, e1, hc1, hr1⟩ := R_C HO1.out
          cases e1
          have hbl := bodyN_len own x k hk HWIT.out
          have hvr := bits_Varint _ A1 c1 (bodyN own x k) (nVal x k).toNat hr1 hc1 (by omega) (by omega)
          rw [Int.toNat_of_nonneg hrg.1] at hvr
          have HVR := Aside0.mk hvr
          have HS : Aside0 (bodyN own x (k + 1) = bodyN own x k ++ nB own x k) := ⟨rfl⟩
          have HNB : Aside0 (nB own x k = if bits .and .i64 own (nWhat k) != 0 then vEnc (nVal x k).toNat else []) := ⟨rfl⟩
          have HRG := Aside0.mk hrg
          clear hw1 HX HB HO hcell hvr hr1 hc1 hbl hrg
          generalize nB own x k = nb at *
          generalize nVal x k = n at *
          generalize nWhat k = what at *
          generalize nOff k = off at *
          generalize bodyN own x k = row at *
          go_upto_if 35 with fail
          clear hix
          generalize wr.alloc (.cells #[.pointer (some ⟨w.heap.size, off, none⟩), .int .i64 what] 65) = W1 at *
          cases h1 : bits .and .i64 own what != 0
          · go_wp2_with fail
            go_roundw
            case rel => exact ⟨k + 1, by omega, by go_num, ⟨by rw [HS.out, HNB.out, h1]; simpa using HO1.out⟩, HX1, HB1⟩
            case measure => (simp [intOf]; omega)
          · go_wp2_with (first | (go_at_call 34; refine HVR.out.mono ?_; rintro en w2 ⟨v2, rfl, hv, hb⟩; have HO2 := Aside0.mk (Kd.R_lower hv HB1.out.size); have HX2 := Aside0.mk (blk_below HX1.out hb); have HB2 := Aside0.mk (HB1.out.trans (hb.mono HB1.out.size)); clear hv hb))
            go_roundw
            case rel => exact ⟨k + 1, by omega, by go_num, ⟨by rw [HS.out, HNB.out, h1, if_pos rfl]; exact HO2.out⟩, HX2, HB2⟩
            case measure => (simp [intOf]; omega)
        · have hb : decide ((k : Int) < 3) = false := by simp; omega
          obtain rfl : k = 3 := by omega
          go_wp2_with fail
          go_meet
          exact ⟨HO, HX, HB⟩
    case rest =>
      clear HO3 HX3 HB3
      obtain ⟨HO, HX, HB⟩ := hcut
      have HRL := Aside0.mk (bodyN_len own x 3 (Nat.le_refl _) HWIT.out)
      have HBO : Aside0 (bodyO own x = bodyN own x 3 ++ (if bits .and .i64 own 4 != 0 then entB x.f4 else []) ++ (if bits .and .i64 own 8 != 0 then vEnc (rowB x.f5).length ++ rowB x.f5 else [])) := ⟨rfl⟩
      generalize bodyN own x 3 = row at *
      go_upto_if 46 with fail
      go_cut [6] (fun s6 wx => ∃ row2 : List Int, Aside0 (row2 = row ++ (if bits .and .i64 own 4 != 0 then entB x.f4 else [])) ∧ Aside0 (row2.length ≤ 203) ∧ Aside0 (Kd.R (Kd.int .u8) 5 wx w.heap.size (fun _ => True) s6 row2) ∧ Aside0 (wx.heap[w.heap.size]? = some (.cells (recC x (.slice A x.f4.f2.f4.length c) (.slice B x.f5.length d)) 41 (0, 0))) ∧ Aside0 (Below w.heap.size w wx))
      case first =>
        cases h4 : bits .and .i64 own 4 != 0
        · go_wp2_with fail
          go_meet
          exact ⟨row, ⟨by simp [h4]⟩, ⟨by have := HRL.out; omega⟩, HO, HX, HB⟩
        · have hent := HENT.out h4
          have hee : entE x.f4 = 0 := by unfold entE; rw [hent]; rfl
          have her : entR x.f4 = entB x.f4 := by unfold entR; rw [hent]; rfl
          have hbt := entry_Bytes _ A c x.f4 (HG.out.keep HB.out HG.out.lt) (Kd.C_below HA.out HB.out) HC.out HRW.out.1
          rw [hee, her] at hbt
          have HBT := Aside0.mk hbt
          have HEL := Aside0.mk (entB_len x.f4 hent HRW.out.1)
          obtain ⟨⟨q4, q5, q6, q7, q8, q9, q10⟩, _⟩ : (wc.cell? ⟨w.heap.size, 4, none⟩ = some (.int .i64 x.f4.f0) ∧ wc.cell? ⟨w.heap.size, 5, none⟩ = some (.int .i64 x.f4.f1) ∧ wc.cell? ⟨w.heap.size, 6, none⟩ = some (.int .i64 x.f4.f2.f0) ∧ wc.cell? ⟨w.heap.size, 7, none⟩ = some (.string x.f4.f2.f1) ∧ wc.cell? ⟨w.heap.size, 8, none⟩ = some (.int .i64 x.f4.f2.f2) ∧ wc.cell? ⟨w.heap.size, 9, none⟩ = some (.int .i64 x.f4.f2.f3) ∧ wc.cell? ⟨w.heap.size, 10, none⟩ = some (.slice A x.f4.f2.f4.length c)) ∧ True := ⟨⟨blk_cell HX.out 4, blk_cell HX.out 5, blk_cell HX.out 6, blk_cell HX.out 7, blk_cell HX.out 8, blk_cell HX.out 9, blk_cell HX.out 10⟩, trivial⟩
          clear hent hee her hbt
          go_wp2_with (first
            | (go_at_call 35; refine HBT.out.mono ?_; rintro en w2 ⟨v, rfl, hv, hb⟩; obtain ⟨A2, c2, e2, hc2, hr2⟩ := R_C hv; subst e2; have HR2 := Aside0.mk hr2; have HO2 := Aside0.mk (Kd.R_below HO.out hb); have HX2 := Aside0.mk (blk_below HX.out hb); have HB2 := Aside0.mk (HB.out.trans (hb.mono HB.out.size)); clear hv hb hr2 hc2)
            | ((with_reducible refine gate_builtin (b := .append) (xs := #[.tmp 53, .tmp 54]) rfl ?_); at_builtin; refine Kd.R_append_rows (Kd.int .u8) (w0 := w) w.heap.size rfl (.tmp 53) (.tmp 54) 22 5 (.int .u8 0) 1 rfl Tryd.underlying22 infou8 rfl (by decide) (by omega) (u6) (row) (entB x.f4) _ _ _ (fun _ => True) (fun _ => False) rfl rfl ?aO ?aR (fun _ _ h => h) (fun _ h => h.elim) ?aF ?aB ?aS ?aL ?_; (case aR => repeat (first | exact HR2.out | (with_reducible refine Kd.C_alloc ?_ _) | (with_reducible refine Kd.C_drewN ?_ _) | (with_reducible refine Kd.C_drew ?_))); (case aB => exact (by repeat (first | (with_reducible first | exact HB2.out | apply below_alloc | apply pw_below_drewN | apply below_drew1) | exact HB2.out))); (case aF => exact (fun _ _ => trivial)); (case aO => exact (by (with_reducible repeat (first | apply Kd.R_alloc | apply Kd.R_drewN | apply Kd.R_drew)); exact HO2.out)); (case aS => exact (below_size (by repeat (first | (with_reducible first | exact HB2.out | apply below_alloc | apply pw_below_drewN | apply below_drew1) | exact HB2.out)))); (case aL => (have h1 := HRL.out; have h2 := HEL.out; omega)); intro v7 w7 hv hw hg7 hat7; have HG7 := Aside0.mk hg7; clear hg7 hat7))
          go_meet
          have hne : ∀ k, some k = u6.ownBlock → k ≠ w.heap.size := fun k hk e => by
            obtain ⟨cl, hcl⟩ := Kd.R_typed HO2.out k hk.symm
            exact blk_ne hcl HX2.out (by decide) e
          exact ⟨_, ⟨by rw [h4]; rfl⟩, ⟨by have h1 := HRL.out; have h2 := HEL.out; rw [List.length_append]; omega⟩, ⟨hv⟩, ⟨blk_grown HX2.out HG7.out (fun e => hne _ e rfl)⟩, ⟨hw⟩⟩
      case rest =>
        clear HO HX HB HRL HENT
        obtain ⟨row2, HR2, HRL, HO, HX, HB⟩ := hcut
        go_upto_if 58 with fail
        go_cut [6] (fun s6 wx => ∃ row3 : List Int, Aside0 (row3 = row2 ++ (if bits .and .i64 own 8 != 0 then vEnc (rowB x.f5).length ++ rowB x.f5 else [])) ∧ Aside0 (row3.length ≤ 4591) ∧ Aside0 (Kd.R (Kd.int .u8) 5 wx w.heap.size (fun _ => True) s6 row3) ∧ Aside0 (Below w.heap.size w wx))
        case first =>
          cases h8 : bits .and .i64 own 8 != 0
          · go_wp2_with fail
            go_meet
            exact ⟨row2, ⟨by simp [h8]⟩, ⟨by have := HRL.out; omega⟩, HO, HB⟩
          · have hr1 := HROWS.out.1
            have hee : rowE x.f5 = 0 := by unfold rowE; rw [hr1]; rfl
            have her : rowR x.f5 = rowB x.f5 := by unfold rowR; rw [hr1]; rfl
            have hbt := entry_Row _ B d x.f5 (HG.out.keep HB.out HG.out.lt) (Kd.C_below HBB.out HB.out) HD.out HRW.out.2 (by have := HROWS.out.2; omega)
            rw [hee, her] at hbt
            have HBT := Aside0.mk hbt
            have HEL := Aside0.mk (rowB_len x.f5 hr1 HRW.out.2 HROWS.out.2)
            have q11 : wc.cell? ⟨w.heap.size, 11, none⟩ = some (.slice B x.f5.length d) := blk_cell HX.out 11
            clear hr1 hee her hbt
            go_wp2_with (first
              | (go_at_call 36; refine HBT.out.mono ?_; rintro en w2 ⟨v, rfl, hv, hb⟩; obtain ⟨A2, c2, e2, hc2, hr2⟩ := R_C hv; subst e2; obtain ⟨A3, c3, e3, hc3, hr3⟩ := R_C (Kd.R_below HO.out hb); subst e3; have HTX := Aside0.mk (bits_Text w2 A3 c3 row2 A2 c2 (rowB x.f5) hr3 hc3 hr2 hc2 (by have h1 := HRL.out; have h2 := HEL.out; omega)); have HB2 := Aside0.mk (HB.out.trans (hb.mono HB.out.size)); clear hv hb hr2 hc2 hr3 hc3)
              | (go_at_call 37; refine HTX.out.mono ?_; rintro en w3 ⟨v, rfl, hv, hb⟩; have HO3 := Aside0.mk (Kd.R_lower hv HB2.out.size); have HB3 := Aside0.mk (HB2.out.trans (hb.mono HB2.out.size)); clear hv hb))
            go_meet
            exact ⟨_, ⟨by rw [h8]; rfl⟩, ⟨by have h1 := HRL.out; have h2 := HEL.out; have h3 := vEnc_ten (rowB x.f5).length (by omega); simp only [List.length_append]; omega⟩, HO3, HB3⟩
        case rest =>
          clear HO HX HB
          obtain ⟨row3, HR3, HRL3, HO, HB⟩ := hcut
          have hbd : body x = row3 := by rw [HBODY.out, HBO.out, HR3.out, HR2.out]
          have hrb : recB x = sealed row3 ++ beB 4 (crcI (sealed row3)).toNat := by unfold recB; rw [hbd]
          have HRB := Aside0.mk hrb
          clear hbd hrb HR3 HR2 HBO HBODY HRL HWIT HROWS
          obtain ⟨A1, c1, e1, hc1, hr1⟩ := R_C HO.out
          cases e1
          have HR1 := Aside0.mk hr1
          have hw1 : IntKind.u64.wrap (row3.length : Int) = (row3.length : Int) := wrap_u64_nat _ (by have := HRL3.out; omega)
          obtain ⟨n2, hn2⟩ : ∃ n2 : Nat, n2 = 65535 - row3.length := ⟨_, rfl⟩
          have e2 : (65535 : Int) - (row3.length : Int) = (n2 : Int) := by have := HRL3.out; omega
          have hw2 : IntKind.u64.wrap (n2 : Int) = (n2 : Int) := wrap_u64_nat _ (by omega)
          have HN2 := Aside0.mk hn2
          have HN2L := Aside0.mk (show n2 < 256 ^ 2 by simp; omega)
          have hp1 : Calls Tryd.prog 38 #[.slice none 0 0, .int .i64 16, .int .u64 (row3.length : Int)] wc fun en w' => ∃ v, en = .returned (.tuple #[v, .int .i64 0]) ∧ Kd.R (Kd.int .u8) 5 w' wc.heap.size (fun _ => True) v (beB 2 row3.length) ∧ Below wc.heap.size wc w' :=
            bits_Put 2 (.inr (.inl rfl)) wc none 0 [] row3.length (Kd.C_nil _ _) (Nat.le_refl _) (by simp) (by have := HRL3.out; simp; omega) 16 rfl
          have HP1 := Aside0.mk hp1
          clear hr1 hc1 hp1 hn2
          go_wp2_with (first
            | (go_at_call_of 38 (Value.slice none 0 0); refine HP1.out.mono ?_; rintro en w2 ⟨v, rfl, hv, hb⟩; obtain ⟨A2, c2, e3, hc2, hr2⟩ := R_C hv; subst e3; have HB2 := Aside0.mk (HB.out.trans (hb.mono HB.out.size)); have HR2 := Aside0.mk (Kd.C_below HR1.out hb); have HP2 := Aside0.mk (bits_Put 2 (.inr (.inl rfl)) w2 A2 c2 (beB 2 row3.length) n2 hr2 hc2 (by rw [beB_len]; omega) HN2L.out 16 rfl); clear hv hb hr2 hc2)
            | (go_at_call_of 38 (Value.slice A2 (beB 2 row3.length).length c2); refine HP2.out.mono ?_; rintro en w3 ⟨v3, rfl, hv, hb⟩; have HO3 := Aside0.mk (Kd.R_lower hv HB2.out.size); have HB3 := Aside0.mk (HB2.out.trans (hb.mono HB2.out.size)); have HR3 := Aside0.mk (Kd.C_below HR2.out hb); clear hv hb)
            | ((with_reducible refine gate_builtin (b := .append) (xs := #[.tmp 84, .tmp 85]) rfl ?_); at_builtin; refine Kd.R_append_rows (Kd.int .u8) (w0 := w) w.heap.size rfl (.tmp 84) (.tmp 85) 22 5 (.int .u8 0) 1 rfl Tryd.underlying22 infou8 rfl (by decide) (by omega) (v3) (beB 2 row3.length ++ beB 2 n2) (row3) _ _ _ (fun _ => True) (fun _ => False) rfl rfl ?aO ?aR (fun _ _ h => h) (fun _ h => h.elim) ?aF ?aB ?aS ?aL ?_; (case aR => repeat (first | exact HR3.out | (with_reducible refine Kd.C_alloc ?_ _) | (with_reducible refine Kd.C_drewN ?_ _) | (with_reducible refine Kd.C_drew ?_))); (case aB => exact (by repeat (first | (with_reducible first | exact HB3.out | apply below_alloc | apply pw_below_drewN | apply below_drew1) | exact HB3.out))); (case aF => exact (fun _ _ => trivial)); (case aO => exact (by (with_reducible repeat (first | apply Kd.R_alloc | apply Kd.R_drewN | apply Kd.R_drew)); exact HO3.out)); (case aS => exact (below_size (by repeat (first | (with_reducible first | exact HB3.out | apply below_alloc | apply pw_below_drewN | apply below_drew1) | exact HB3.out)))); (case aL => (have h1 := HRL3.out; simp only [List.length_append, beB_len]; omega)); intro v7 w7 hv hw hg7 hat7; clear hg7 hat7)
            | (go_at_call 27; obtain ⟨L, hL⟩ : ∃ L, L = beB 2 row3.length ++ beB 2 n2 ++ row3 := ⟨_, rfl⟩; rw [← hL] at hv; have HLL := Aside0.mk hL; have hll : L.length ≤ 4600 := (by have h1 := HRL3.out; rw [hL]; simp only [List.length_append, beB_len]; omega); clear hL; obtain ⟨A5, c5, e5, hc5, hr5⟩ := R_C hv; subst e5; refine (sum_Crc.calls A5 c5 L _ _ hr5 hc5 rfl).mono ?_; rintro en w8 ⟨rfl, hb⟩; have HB8 := Aside0.mk (hw.trans (hb.mono hw.size)); have hcr := crcI_range L; have hcw : IntKind.u64.wrap (crcI L) = crcI L := wrap_u64 _ (by omega) (by omega); have hp3 := bits_Put 4 (.inr (.inr rfl)) w8 A5 c5 L (crcI L).toNat (Kd.C_below hr5 hb) hc5 (by omega) (by simp; omega) 32 rfl; rw [Int.toNat_of_nonneg hcr.1] at hp3; have HP3 := Aside0.mk hp3; clear hv hw hb hr5 hc5 hcr hp3 hll)
            | (go_at_call 38; refine HP3.out.mono ?_; rintro en w9 ⟨v9, rfl, hv, hb⟩; have HO9 := Aside0.mk (Kd.R_lower hv HB8.out.size); have HB9 := Aside0.mk (HB8.out.trans (hb.mono HB8.out.size)); clear hv hb))
          go_ret2
          refine ⟨_, by rw [HE.out]; rfl, ?_, HB9.out⟩
          have h := HO9.out
          have hl : L = sealed row3 := by rw [HLL.out, HN2.out]; rfl
          rw [hl] at h
          rw [HR.out, HRB.out]
          exact h
end Go.Proofs.YtmeblifbkhpdnaaDoor.K
/- Contract of record.Same. -/
namespace Go.Proofs.YtmeblifbkhpdnaaDoor.K
set_option linter.unusedVariables false
set_option linter.unusedSimpArgs false
open Go.RowKit Go.Proofs.YtmeblifbkhpdnaaDoorW.PrintWords Go.Proofs.YtmeblifbkhpdnaaDoorW.PrintLast Go.Proofs.YtmeblifbkhpdnaaDoorW.PrintMore
def sameN (s : Bool) (a b : Rec) : Nat → Bool
  | 0 => s
  | k + 1 => sameN s a b k && (nVal a k == nVal b k)
def sameRec (a b : Rec) : Bool := sameN ((a.f0 == b.f0) && (sameEnt a.f4 b.f4 && eqBy sameEnt a.f5 b.f5)) a b 3
theorem sameRec_iff (a b : Rec) : sameRec a b = true ↔ a = b := by
  unfold sameRec
  obtain ⟨a0, a1, a2, a3, a4, a5⟩ := a
  obtain ⟨b0, b1, b2, b3, b4, b5⟩ := b
  simp [sameN, nVal, sameEnt_iff, eqBy_iff sameEnt_iff]
  constructor
  · rintro ⟨⟨⟨⟨h0, h4, h5⟩, h3⟩, h1⟩, h2⟩
    exact ⟨h0, h1, h2, h3, h4, h5⟩
  · rintro ⟨h0, h1, h2, h3, h4, h5⟩
    exact ⟨⟨⟨⟨h0, h4, h5⟩, h3⟩, h1⟩, h2⟩
set_option maxRecDepth 20000 in
set_option maxHeartbeats 8000000 in
theorem record_Same (w : World) (A B : Option Addr) (c d : Nat) (a : Rec) (A' B' : Option Addr) (c' d' : Nat) (b : Rec) (hA : kLine.C w A a.f4.f2.f4.length a.f4.f2.f4) (hc : a.f4.f2.f4.length ≤ c) (hB : kEnt.C w B a.f5.length a.f5) (hd : a.f5.length ≤ d)
    (hA' : kLine.C w A' b.f4.f2.f4.length b.f4.f2.f4) (hc' : b.f4.f2.f4.length ≤ c') (hB' : kEnt.C w B' b.f5.length b.f5) (hd' : b.f5.length ≤ d') :
    Calls Tryd.prog 19 #[recV a (.slice A a.f4.f2.f4.length c) (.slice B a.f5.length d), recV b (.slice A' b.f4.f2.f4.length c') (.slice B' b.f5.length d')] w fun en w' => en = .returned (.bool (sameRec a b)) ∧ Below w.heap.size w w' := by
  have hw1 := below_alloc (Below.refl w.heap.size w) (.cells (recC a (.slice A a.f4.f2.f4.length c) (.slice B a.f5.length d)) 41)
  have hw2 := below_alloc (Below.refl (w.alloc (.cells (recC a (.slice A a.f4.f2.f4.length c) (.slice B a.f5.length d)) 41)).heap.size (w.alloc (.cells (recC a (.slice A a.f4.f2.f4.length c) (.slice B a.f5.length d)) 41))) (.cells (recC b (.slice A' b.f4.f2.f4.length c') (.slice B' b.f5.length d')) 41)
  have HB0 := Aside0.mk (hw1.trans (hw2.mono hw1.size))
  have HXa := Aside0.mk (blk_below (blk_new w (.cells (recC a (.slice A a.f4.f2.f4.length c) (.slice B a.f5.length d)) 41)) hw2)
  have hxb := blk_new (w.alloc (.cells (recC a (.slice A a.f4.f2.f4.length c) (.slice B a.f5.length d)) 41)) (.cells (recC b (.slice A' b.f4.f2.f4.length c') (.slice B' b.f5.length d')) 41)
  rw [World.size_alloc] at hxb
  have HXb := Aside0.mk hxb
  have HSE := Aside0.mk (entry_Same' _ A A' c c' a.f4 b.f4 (Kd.C_below hA HB0.out) hc (Kd.C_below hA' HB0.out) hc')
  have HSR := Aside0.mk (fun W (hb : Below w.heap.size w W) => entry_SameRow W B B' d d' a.f5 b.f5 (Kd.C_below hB hb) hd (Kd.C_below hB' hb) hd')
  clear hA hc hB hd hA' hc' hB' hd' hw1 hw2 hxb
  have hsm : sameRec a b = sameN ((a.f0 == b.f0) && (sameEnt a.f4 b.f4 && eqBy sameEnt a.f5 b.f5)) a b 3 := rfl
  have HSM := Aside0.mk hsm
  clear hsm
  go_enter Tryd.func19, Tryd.ntmps19
  go_upto_region 1 with fail
  generalize (w.alloc (.cells (recC a (.slice A a.f4.f2.f4.length c) (.slice B a.f5.length d)) 41)).alloc (.cells (recC b (.slice A' b.f4.f2.f4.length c') (.slice B' b.f5.length d')) 41) = W0 at *
  go_cut [5] (fun s5 wx => s5 = .bool ((a.f0 == b.f0) && (sameEnt a.f4 b.f4 && eqBy sameEnt a.f5 b.f5)) ∧ Aside0 (wx.heap[w.heap.size]? = some (.cells (recC a (.slice A a.f4.f2.f4.length c) (.slice B a.f5.length d)) 41 (0, 0))) ∧ Aside0 (wx.heap[w.heap.size + 1]? = some (.cells (recC b (.slice A' b.f4.f2.f4.length c') (.slice B' b.f5.length d')) 41 (0, 0))) ∧ Aside0 (Below w.heap.size w wx))
  case first =>
    have q0 : W0.cell? ⟨w.heap.size, 0, none⟩ = some (.int .i64 a.f0) := blk_cell HXa.out 0
    have q4 : W0.cell? ⟨w.heap.size, 4, none⟩ = some (.int .i64 a.f4.f0) := blk_cell HXa.out 4
    have q5 : W0.cell? ⟨w.heap.size, 5, none⟩ = some (.int .i64 a.f4.f1) := blk_cell HXa.out 5
    have q6 : W0.cell? ⟨w.heap.size, 6, none⟩ = some (.int .i64 a.f4.f2.f0) := blk_cell HXa.out 6
    have q7 : W0.cell? ⟨w.heap.size, 7, none⟩ = some (.string a.f4.f2.f1) := blk_cell HXa.out 7
    have q8 : W0.cell? ⟨w.heap.size, 8, none⟩ = some (.int .i64 a.f4.f2.f2) := blk_cell HXa.out 8
    have q9 : W0.cell? ⟨w.heap.size, 9, none⟩ = some (.int .i64 a.f4.f2.f3) := blk_cell HXa.out 9
    have q10 : W0.cell? ⟨w.heap.size, 10, none⟩ = some (.slice A a.f4.f2.f4.length c) := blk_cell HXa.out 10
    have p0 : W0.cell? ⟨w.heap.size + 1, 0, none⟩ = some (.int .i64 b.f0) := blk_cell HXb.out 0
    have p4 : W0.cell? ⟨w.heap.size + 1, 4, none⟩ = some (.int .i64 b.f4.f0) := blk_cell HXb.out 4
    have p5 : W0.cell? ⟨w.heap.size + 1, 5, none⟩ = some (.int .i64 b.f4.f1) := blk_cell HXb.out 5
    have p6 : W0.cell? ⟨w.heap.size + 1, 6, none⟩ = some (.int .i64 b.f4.f2.f0) := blk_cell HXb.out 6
    have p7 : W0.cell? ⟨w.heap.size + 1, 7, none⟩ = some (.string b.f4.f2.f1) := blk_cell HXb.out 7
    have p8 : W0.cell? ⟨w.heap.size + 1, 8, none⟩ = some (.int .i64 b.f4.f2.f2) := blk_cell HXb.out 8
    have p9 : W0.cell? ⟨w.heap.size + 1, 9, none⟩ = some (.int .i64 b.f4.f2.f3) := blk_cell HXb.out 9
    have p10 : W0.cell? ⟨w.heap.size + 1, 10, none⟩ = some (.slice A' b.f4.f2.f4.length c') := blk_cell HXb.out 10
    cases h0 : a.f0 == b.f0
    · go_wp2_with fail
      go_meet
      exact ⟨by first | rfl | simp [h0], HXa, HXb, HB0⟩
    · generalize sameEnt a.f4 b.f4 = se at *
      generalize eqBy sameEnt a.f5 b.f5 = sr at *
      cases se
      · go_wp2_with (first | (go_at_call 42; refine HSE.out.mono ?_; rintro en w2 ⟨rfl, hb⟩; have HXa2 := Aside0.mk (blk_below HXa.out hb); have HXb2 := Aside0.mk (blk_below HXb.out hb); have HB2 := Aside0.mk (HB0.out.trans (hb.mono HB0.out.size)); clear hb))
        go_meet
        exact ⟨by first | rfl | simp [h0], HXa2, HXb2, HB2⟩
      · go_wp2_with (first
          | (go_at_call 42; refine HSE.out.mono ?_; rintro en w2 ⟨rfl, hb⟩; have HXa2 := Aside0.mk (blk_below HXa.out hb); have HXb2 := Aside0.mk (blk_below HXb.out hb); have HB2 := Aside0.mk (HB0.out.trans (hb.mono HB0.out.size)); have g11 : w2.cell? ⟨w.heap.size, 11, none⟩ = some (.slice B a.f5.length d) := blk_cell HXa2.out 11; have h11 : w2.cell? ⟨w.heap.size + 1, 11, none⟩ = some (.slice B' b.f5.length d') := blk_cell HXb2.out 11; clear hb)
          | (go_at_call 49; refine (HSR.out w2 HB2.out).mono ?_; rintro en w3 ⟨rfl, hb⟩; have HXa3 := Aside0.mk (blk_below HXa2.out hb); have HXb3 := Aside0.mk (blk_below HXb2.out hb); have HB3 := Aside0.mk (HB2.out.trans (hb.mono HB2.out.size)); clear hb))
        go_meet
        exact ⟨by first | rfl | simp [h0], HXa3, HXb3, HB3⟩
  case rest =>
    clear HXa HXb HB0 HSE HSR
    obtain ⟨rfl, HXa, HXb, HB⟩ := hcut
    generalize ((a.f0 == b.f0) && (sameEnt a.f4 b.f4 && eqBy sameEnt a.f5 b.f5)) = s0 at *
    have HN1 := Aside0.mk (record_numbers wc (w.heap.size + 1))
    go_upto_block 0 with (first
      | (go_at_call 33; refine HN1.out.mono ?_; rintro en w2 ⟨rfl, hb⟩; clear HN1; have hal := below_alloc (Below.refl w2.heap.size w2) (.cells #[.pointer (some ⟨w.heap.size + 1, 3, none⟩), .int .i64 1, .pointer (some ⟨w.heap.size + 1, 1, none⟩), .int .i64 2, .pointer (some ⟨w.heap.size + 1, 2, none⟩), .int .i64 2] 66); have HXa2 := Aside0.mk (blk_below HXa.out (hb.trans (hal.mono hb.size))); have HXb2 := Aside0.mk (blk_below HXb.out (hb.trans (hal.mono hb.size))); have HXl2 := Aside0.mk (blk_new w2 (.cells #[.pointer (some ⟨w.heap.size + 1, 3, none⟩), .int .i64 1, .pointer (some ⟨w.heap.size + 1, 1, none⟩), .int .i64 2, .pointer (some ⟨w.heap.size + 1, 2, none⟩), .int .i64 2] 66)); have HB2 := Aside0.mk (HB.out.trans ((hb.trans (hal.mono hb.size)).mono HB.out.size)); clear hb hal)
      | (go_at_call 33; refine (record_numbers _ w.heap.size).mono ?_; rintro en w3 ⟨rfl, hb⟩; have HXa3 := Aside0.mk (blk_below HXa2.out hb); have HXb3 := Aside0.mk (blk_below HXb2.out hb); have HXl3 := Aside0.mk (blk_below HXl2.out hb); have HB3 := Aside0.mk (HB2.out.trans (hb.mono HB2.out.size)); clear hb))
    clear HXa HXb HB HXa2 HXb2 HXl2 HB2
    obtain ⟨gl, hgl⟩ : ∃ gl, gl = w2.heap.size := ⟨_, rfl⟩
    rw [← hgl] at HXl3 ⊢
    clear hgl
    go_wp2_with fail
    go_loopw [5, 30] (fun s5 v wr => ∃ k : Nat, k ≤ 3 ∧ v = .int .i64 (k : Int) ∧ s5 = .bool (sameN s0 a b k) ∧ Aside0 (wr.heap[w.heap.size]? = some (.cells (recC a (.slice A a.f4.f2.f4.length c) (.slice B a.f5.length d)) 41 (0, 0))) ∧ Aside0 (wr.heap[w.heap.size + 1]? = some (.cells (recC b (.slice A' b.f4.f2.f4.length c') (.slice B' b.f5.length d')) 41 (0, 0))) ∧ Aside0 (wr.heap[gl]? = some (.cells #[.pointer (some ⟨w.heap.size + 1, 3, none⟩), .int .i64 1, .pointer (some ⟨w.heap.size + 1, 1, none⟩), .int .i64 2, .pointer (some ⟨w.heap.size + 1, 2, none⟩), .int .i64 2] 66 (0, 0))) ∧ Aside0 (Below w.heap.size w wr)) (fun _ v _ => 3 - (intOf v).toNat)
    case atStart => exact ⟨0, by omega, rfl, rfl, HXa3, HXb3, HXl3, HB3⟩
    case round =>
      clear HXa3 HXb3 HXl3 HB3
      obtain ⟨k, hk, rfl, rfl, HXa, HXb, HXl, HB⟩ := hrel
      by_cases hlt : k < 3
      · have hb : decide ((k : Int) < 3) = true := by simp; omega
        have hix := nums_index w.heap.size k hlt
        have hca := nums_cell HXa.out k hlt
        have hcb := nums_cell HXb.out k hlt
        have hcl : wr.cell? ⟨gl, k * 2, none⟩ = some (.pointer (some ⟨w.heap.size + 1, nOff k, none⟩)) := by
          have : k = 0 ∨ k = 1 ∨ k = 2 := by omega
          rcases this with rfl | rfl | rfl
          · exact blk_cell HXl.out 0
          · exact blk_cell HXl.out 2
          · exact blk_cell HXl.out 4
        have hs : sameN s0 a b (k + 1) = (sameN s0 a b k && (nVal a k == nVal b k)) := rfl
        have HS := Aside0.mk hs
        clear hs
        have hw1 := below_alloc (Below.refl wr.heap.size wr) (.cells #[.pointer (some ⟨w.heap.size, nOff k, none⟩), .int .i64 (nWhat k)] 65)
        have hca1 := (hw1.cell (cell_blk hca)).trans hca
        have hcb1 := (hw1.cell (cell_blk hcb)).trans hcb
        have hcl1 := (hw1.cell (cell_blk hcl)).trans hcl
        have hp0 : (wr.alloc (.cells #[.pointer (some ⟨w.heap.size, nOff k, none⟩), .int .i64 (nWhat k)] 65)).cell? ⟨wr.heap.size, 0, none⟩ = some (.pointer (some ⟨w.heap.size, nOff k, none⟩)) := by simp
        have HXa1 := Aside0.mk (blk_below HXa.out hw1)
        have HXb1 := Aside0.mk (blk_below HXb.out hw1)
        have HXl1 := Aside0.mk (blk_below HXl.out hw1)
        have HB1 := Aside0.mk (HB.out.trans (hw1.mono HB.out.size))
        clear hw1 HXa HXb HXl HB hca hcb hcl
        generalize sameN s0 a b k = ok at *
        generalize nVal a k = na at *
        generalize nVal b k = nb at *
        generalize nWhat k = what at *
        generalize nOff k = off at *
        go_upto_region 6 with fail
        clear hix
        generalize wr.alloc (.cells #[.pointer (some ⟨w.heap.size, off, none⟩), .int .i64 what] 65) = W1 at *
        cases ok
        · go_quiet (fail)
          go_wp2_with fail
          go_roundw
          case rel => exact ⟨k + 1, by omega, by go_num, by rw [HS.out]; rfl, ⟨blk_drewN HXa1.out _⟩, ⟨blk_drewN HXb1.out _⟩, ⟨blk_drewN HXl1.out _⟩, ⟨pw_below_drewN HB1.out _⟩⟩
          case measure => (simp [intOf]; omega)
        · have hk0 : (0 : Int) ≤ (k : Int) := by omega
          have hk3 : (k : Int) < 3 := by omega
          go_quiet (fail)
          go_wp2_with fail
          go_roundw
          case rel => exact ⟨k + 1, by omega, by go_num, by rw [HS.out]; rfl, ⟨blk_drewN HXa1.out _⟩, ⟨blk_drewN HXb1.out _⟩, ⟨blk_drewN HXl1.out _⟩, ⟨pw_below_drewN HB1.out _⟩⟩
          case measure => (simp [intOf]; omega)
      · have hb : decide ((k : Int) < 3) = false := by simp; omega
        obtain rfl : k = 3 := by omega
        go_wp2_with fail
        go_ret
        exact ⟨by rw [HSM.out]; rfl, HB.out⟩
end Go.Proofs.YtmeblifbkhpdnaaDoor.K
/- A reader beside a record's box; what a record's body says, step by step. -/
namespace Go.Proofs.YtmeblifbkhpdnaaDoor.K
set_option linter.unusedVariables false
set_option linter.unusedSimpArgs false
open Go.RowKit Go.Proofs.YtmeblifbkhpdnaaDoorW.PrintWords Go.Proofs.YtmeblifbkhpdnaaDoorW.PrintLast Go.Proofs.YtmeblifbkhpdnaaDoorW.PrintMore
def setN (r : Rec) (k : Nat) (n : Int) : Rec := if k = 0 then { r with f3 := n } else if k = 1 then { r with f1 := n } else { r with f2 := n }
def pNumsN (own : Int) (r0 : Rec) (x0 : List Int × Int) : Nat → Rec × List Int × Int
  | 0 => (r0, x0)
  | k + 1 => if bits .and .i64 own (nWhat k) != 0 then (setN (pNumsN own r0 x0 k).1 k (min (rVar (pNumsN own r0 x0 k).2.1 (pNumsN own r0 x0 k).2.2).1 9007199254740992), (rVar (pNumsN own r0 x0 k).2.1 (pNumsN own r0 x0 k).2.2).2) else pNumsN own r0 x0 k
def zRec (k : Int) : Rec := ⟨k, 0, 0, 0, zEnt, []⟩
/-- What parse tells of a body, behind its numbers: the state is s. -/
def pRec1 (own : Int) (s : Rec × List Int × Int) : Option Rec :=
  if s.2.2 ≠ 0 then none else
  if bits .and .i64 own 4 != 0 then (if (pEnt s.2.1).2 = 0 ∧ recE { s.1 with f4 := (pEnt s.2.1).1 } = 0 then some { s.1 with f4 := (pEnt s.2.1).1 } else none) else
  if bits .and .i64 own 8 != 0 then (if (pRows (rText s.2.1 s.2.2).1).2 = 0 ∧ rEnd (rText s.2.1 s.2.2).2.1 (rText s.2.1 s.2.2).2.2 = 0 ∧ recE { s.1 with f5 := (pRows (rText s.2.1 s.2.2).1).1 } = 0 then some { s.1 with f5 := (pRows (rText s.2.1 s.2.2).1).1 } else none) else
  if rEnd s.2.1 s.2.2 = 0 ∧ recE s.1 = 0 then some s.1 else none
def pRec (l : List Int) : Option Rec := pRec1 (rHas (rNum 1 l 0).1) (pNumsN (rHas (rNum 1 l 0).1) (zRec (rNum 1 l 0).1) (rNum 1 l 0).2 3)
def RSt (w0 : World) (b g : Nat) (r : Rec) (v u : Value) (x : List Int × Int) (l0 : List Int) (W : World) : Prop :=
  W.heap[b]? = some (.cells (recC r v u) 41 (0, 0)) ∧ Rd W g x.1 x.2 ∧ b ≠ g ∧ w0.heap.size ≤ b ∧ w0.heap.size ≤ g ∧ Below w0.heap.size w0 W ∧ x.1 <:+ l0
section
variable {w0 W W' : World} {b g : Nat} {r : Rec} {v u : Value} {x y : List Int × Int} {l0 : List Int}
theorem RSt.box (h : RSt w0 b g r v u x l0 W) : W.heap[b]? = some (.cells (recC r v u) 41 (0, 0)) := h.1
theorem RSt.rd (h : RSt w0 b g r v u x l0 W) : Rd W g x.1 x.2 := h.2.1
theorem RSt.ne (h : RSt w0 b g r v u x l0 W) : b ≠ g := h.2.2.1
theorem RSt.lb (h : RSt w0 b g r v u x l0 W) : w0.heap.size ≤ b := h.2.2.2.1
theorem RSt.lg (h : RSt w0 b g r v u x l0 W) : w0.heap.size ≤ g := h.2.2.2.2.1
theorem RSt.low (h : RSt w0 b g r v u x l0 W) : Below w0.heap.size w0 W := h.2.2.2.2.2.1
theorem RSt.suf (h : RSt w0 b g r v u x l0 W) : x.1 <:+ l0 := h.2.2.2.2.2.2
theorem RSt.lt (h : RSt w0 b g r v u x l0 W) : b < W.heap.size ∧ g < W.heap.size := ⟨blk_lt h.box, h.rd.lt⟩
theorem RSt.call (h : RSt w0 b g r v u x l0 W) {l : List Int} {e : Int} (hr : Rd W' g l e) (hy : l <:+ x.1) (hg : W.grownBy W' (some g)) : RSt w0 b g r v u (l, e) l0 W' :=
  ⟨blk_grown h.box hg (fun q => h.ne (Option.some.inj q)), hr, h.ne, h.lb, h.lg, below_grownG h.low hg h.lg, hy.trans h.suf⟩
theorem RSt.below (h : RSt w0 b g r v u x l0 W) (hb : Below W.heap.size W W') : RSt w0 b g r v u x l0 W' :=
  ⟨blk_below h.box hb, h.rd.below hb, h.ne, h.lb, h.lg, h.low.trans (hb.mono h.low.size), h.suf⟩
theorem RSt.put (h : RSt w0 b g r v u x l0 W) {r' : Rec} {v' u' : Value} (hbx : W'.heap[b]? = some (.cells (recC r' v' u') 41 (0, 0))) (hgr : W.grownBy W' (some b)) : RSt w0 b g r' v' u' x l0 W' :=
  ⟨hbx, h.rd.keep hgr h.ne h.box (by decide), h.ne, h.lb, h.lg, below_grownG h.low hgr h.lb, h.suf⟩
theorem RSt.set0 (h : RSt w0 b g r v u x l0 W) (z : Int) : RSt w0 b g { r with f0 := z } v u x l0 (W.setCell ⟨b, 0, none⟩ (.int .i64 z)) :=
  h.put (blk_put h.box 0 _ rfl) (grown_set (World.grownBy.refl W _))
theorem RSt.setN (h : RSt w0 b g r v u x l0 W) (k : Nat) (hk : k < 3) (z : Int) : RSt w0 b g (setN r k z) v u x l0 (W.setCell ⟨b, nOff k, none⟩ (.int .i64 z)) := by
  have : k = 0 ∨ k = 1 ∨ k = 2 := by omega
  rcases this with rfl | rfl | rfl
  · exact h.put (blk_put h.box 3 _ rfl) (grown_set (World.grownBy.refl W _))
  · exact h.put (blk_put h.box 1 _ rfl) (grown_set (World.grownBy.refl W _))
  · exact h.put (blk_put h.box 2 _ rfl) (grown_set (World.grownBy.refl W _))
/-- The cells of a record's box. -/
theorem box12 {y0 y1 y2 y3 y4 y5 y6 y7 y8 y9 y10 y11 : Value} {t : TypeId} (h : W.heap[b]? = some (.cells #[y0, y1, y2, y3, y4, y5, y6, y7, y8, y9, y10, y11] t (0, 0))) : (W.cell? ⟨b, 0, none⟩ = some y0 ∧ W.cell? ⟨b, 1, none⟩ = some y1 ∧ W.cell? ⟨b, 2, none⟩ = some y2 ∧ W.cell? ⟨b, 3, none⟩ = some y3 ∧ W.cell? ⟨b, 4, none⟩ = some y4 ∧ W.cell? ⟨b, 5, none⟩ = some y5 ∧ W.cell? ⟨b, 6, none⟩ = some y6 ∧ W.cell? ⟨b, 7, none⟩ = some y7 ∧ W.cell? ⟨b, 8, none⟩ = some y8 ∧ W.cell? ⟨b, 9, none⟩ = some y9 ∧ W.cell? ⟨b, 10, none⟩ = some y10 ∧ W.cell? ⟨b, 11, none⟩ = some y11) ∧
    (W.frozen? ⟨b, 0, none⟩ = false ∧ W.frozen? ⟨b, 1, none⟩ = false ∧ W.frozen? ⟨b, 2, none⟩ = false ∧ W.frozen? ⟨b, 3, none⟩ = false ∧ W.frozen? ⟨b, 4, none⟩ = false ∧ W.frozen? ⟨b, 5, none⟩ = false ∧ W.frozen? ⟨b, 6, none⟩ = false ∧ W.frozen? ⟨b, 7, none⟩ = false ∧ W.frozen? ⟨b, 8, none⟩ = false ∧ W.frozen? ⟨b, 9, none⟩ = false ∧ W.frozen? ⟨b, 10, none⟩ = false ∧ W.frozen? ⟨b, 11, none⟩ = false) :=
  ⟨⟨blk_cell h 0, blk_cell h 1, blk_cell h 2, blk_cell h 3, blk_cell h 4, blk_cell h 5, blk_cell h 6, blk_cell h 7, blk_cell h 8, blk_cell h 9, blk_cell h 10, blk_cell h 11⟩,
    ⟨blk_frozen h 0, blk_frozen h 1, blk_frozen h 2, blk_frozen h 3, blk_frozen h 4, blk_frozen h 5, blk_frozen h 6, blk_frozen h 7, blk_frozen h 8, blk_frozen h 9, blk_frozen h 10, blk_frozen h 11⟩⟩
/-- An entry is written into a record's box. -/
theorem RSt.setE (h : RSt w0 b g r v u x l0 W) (y : Ent) (v' : Value) : RSt w0 b g { r with f4 := y } v' u x l0 (((((((W.setCell ⟨b, 4, none⟩ (.int .i64 y.f0)).setCell ⟨b, 5, none⟩ (.int .i64 y.f1)).setCell ⟨b, 6, none⟩ (.int .i64 y.f2.f0)).setCell ⟨b, 7, none⟩ (.string y.f2.f1)).setCell ⟨b, 8, none⟩ (.int .i64 y.f2.f2)).setCell ⟨b, 9, none⟩ (.int .i64 y.f2.f3)).setCell ⟨b, 10, none⟩ v') := by
  have h0 := blk_put h.box 4 (.int .i64 y.f0) (cs' := #[.int .i64 r.f0, .int .i64 r.f1, .int .i64 r.f2, .int .i64 r.f3, .int .i64 y.f0, .int .i64 r.f4.f1, .int .i64 r.f4.f2.f0, .string r.f4.f2.f1, .int .i64 r.f4.f2.f2, .int .i64 r.f4.f2.f3, v, u]) rfl
  have h1 := blk_put h0 5 (.int .i64 y.f1) (cs' := #[.int .i64 r.f0, .int .i64 r.f1, .int .i64 r.f2, .int .i64 r.f3, .int .i64 y.f0, .int .i64 y.f1, .int .i64 r.f4.f2.f0, .string r.f4.f2.f1, .int .i64 r.f4.f2.f2, .int .i64 r.f4.f2.f3, v, u]) rfl
  have h2 := blk_put h1 6 (.int .i64 y.f2.f0) (cs' := #[.int .i64 r.f0, .int .i64 r.f1, .int .i64 r.f2, .int .i64 r.f3, .int .i64 y.f0, .int .i64 y.f1, .int .i64 y.f2.f0, .string r.f4.f2.f1, .int .i64 r.f4.f2.f2, .int .i64 r.f4.f2.f3, v, u]) rfl
  have h3 := blk_put h2 7 (.string y.f2.f1) (cs' := #[.int .i64 r.f0, .int .i64 r.f1, .int .i64 r.f2, .int .i64 r.f3, .int .i64 y.f0, .int .i64 y.f1, .int .i64 y.f2.f0, .string y.f2.f1, .int .i64 r.f4.f2.f2, .int .i64 r.f4.f2.f3, v, u]) rfl
  have h4 := blk_put h3 8 (.int .i64 y.f2.f2) (cs' := #[.int .i64 r.f0, .int .i64 r.f1, .int .i64 r.f2, .int .i64 r.f3, .int .i64 y.f0, .int .i64 y.f1, .int .i64 y.f2.f0, .string y.f2.f1, .int .i64 y.f2.f2, .int .i64 r.f4.f2.f3, v, u]) rfl
  have h5 := blk_put h4 9 (.int .i64 y.f2.f3) (cs' := #[.int .i64 r.f0, .int .i64 r.f1, .int .i64 r.f2, .int .i64 r.f3, .int .i64 y.f0, .int .i64 y.f1, .int .i64 y.f2.f0, .string y.f2.f1, .int .i64 y.f2.f2, .int .i64 y.f2.f3, v, u]) rfl
  have h6 := blk_put h5 10 v' (cs' := #[.int .i64 r.f0, .int .i64 r.f1, .int .i64 r.f2, .int .i64 r.f3, .int .i64 y.f0, .int .i64 y.f1, .int .i64 y.f2.f0, .string y.f2.f1, .int .i64 y.f2.f2, .int .i64 y.f2.f3, v', u]) rfl
  exact h.put h6 (grown_set (grown_set (grown_set (grown_set (grown_set (grown_set (grown_set (World.grownBy.refl W _))))))))
theorem RSt.setL (h : RSt w0 b g r v u x l0 W) (ys : List Ent) (u' : Value) : RSt w0 b g { r with f5 := ys } v u' x l0 (W.setCell ⟨b, 11, none⟩ u') :=
  h.put (blk_put h.box 11 _ rfl) (grown_set (World.grownBy.refl W _))
/-- A record's box is written whole. -/
abbrev put12 (W : World) (b : Nat) (v0 v1 v2 v3 v4 v5 v6 v7 v8 v9 v10 v11 : Value) : World := (((((((((((W.setCell ⟨b, 0, none⟩ v0).setCell ⟨b, 1, none⟩ v1).setCell ⟨b, 2, none⟩ v2).setCell ⟨b, 3, none⟩ v3).setCell ⟨b, 4, none⟩ v4).setCell ⟨b, 5, none⟩ v5).setCell ⟨b, 6, none⟩ v6).setCell ⟨b, 7, none⟩ v7).setCell ⟨b, 8, none⟩ v8).setCell ⟨b, 9, none⟩ v9).setCell ⟨b, 10, none⟩ v10).setCell ⟨b, 11, none⟩ v11
theorem put_same {i : Nat} {cs : Array Value} {t : TypeId} {z : Value} (h : W.heap[b]? = some (.cells cs t (0, 0))) (hz : cs[i]? = some z) : (W.setCell ⟨b, i, none⟩ z).heap[b]? = some (.cells cs t (0, 0)) :=
  blk_put h i z (by
    apply Array.ext
    · simp
    · intro j h1 h2
      rw [Array.getElem_setIfInBounds]
      split
      · rename_i e
        subst e
        rw [Array.getElem?_eq_getElem h2] at hz
        exact (Option.some.inj hz).symm
      · rfl)
theorem put12_box {v0 v1 v2 v3 v4 v5 v6 v7 v8 v9 v10 v11 : Value} {t : TypeId} (h : W.heap[b]? = some (.cells #[v0, v1, v2, v3, v4, v5, v6, v7, v8, v9, v10, v11] t (0, 0))) : (put12 W b v0 v1 v2 v3 v4 v5 v6 v7 v8 v9 v10 v11).heap[b]? = some (.cells #[v0, v1, v2, v3, v4, v5, v6, v7, v8, v9, v10, v11] t (0, 0)) := by
  have h0 := put_same (i := 0) (z := v0) h rfl
  have h1 := put_same (i := 1) (z := v1) h0 rfl
  have h2 := put_same (i := 2) (z := v2) h1 rfl
  have h3 := put_same (i := 3) (z := v3) h2 rfl
  have h4 := put_same (i := 4) (z := v4) h3 rfl
  have h5 := put_same (i := 5) (z := v5) h4 rfl
  have h6 := put_same (i := 6) (z := v6) h5 rfl
  have h7 := put_same (i := 7) (z := v7) h6 rfl
  have h8 := put_same (i := 8) (z := v8) h7 rfl
  have h9 := put_same (i := 9) (z := v9) h8 rfl
  have h10 := put_same (i := 10) (z := v10) h9 rfl
  exact put_same (i := 11) (z := v11) h10 rfl
theorem put12_grown (W : World) (b : Nat) (v0 v1 v2 v3 v4 v5 v6 v7 v8 v9 v10 v11 : Value) : W.grownBy (put12 W b v0 v1 v2 v3 v4 v5 v6 v7 v8 v9 v10 v11) (some b) :=
  grown_set (grown_set (grown_set (grown_set (grown_set (grown_set (grown_set (grown_set (grown_set (grown_set (grown_set (grown_set (World.grownBy.refl W _))))))))))))
end
set_option maxHeartbeats 4000000 in
theorem ret_rec {W : World} {b : Nat} {r : Rec} {v u : Value} {e : Bool} {tmps : Array Value} (h : W.heap[b]? = some (.cells (recC r v u) 41 (0, 0))) (h2 : tmps.getD 2 undef = .pointer (some ⟨b, 0, none⟩)) (h3 : tmps.getD 3 undef = .bool e) :
    (results Tryd.f26 tmps).run Tryd.prog W = .ok (.tuple #[recV r v u, .bool e]) W := by
  obtain ⟨⟨q0, q1, q2, q3, q4, q5, q6, q7, q8, q9, q10, q11⟩, _⟩ := box12 h
  rw [results_cell_tmp (p := 2) (u := 3) (ty := 41) rfl, h2, h3]
  simp [go_sem, q0, q1, q2, q3, q4, q5, q6, q7, q8, q9, q10, q11]
end Go.Proofs.YtmeblifbkhpdnaaDoor.K
