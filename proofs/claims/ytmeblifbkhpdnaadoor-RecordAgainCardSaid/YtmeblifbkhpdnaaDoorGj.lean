/- The law's works: the chapter's record. -/
import Derived.Test.YtmeblifbkhpdnaaDoorGi
import Derived.Test.YtmeblifbkhpdnaaDoorTie
import Derived.Test.YtmeblifbkhpdnaaDoorCards
import Derived.WalkKit
import Derived.ProofKit
import Derived.OpenShut
import Derived.ShutString
import Derived.ChangeOld
import Derived.Below
import Derived.SizedLaws
import Derived.LaidMore
import Derived.Stop.Joined
import Derived.Stop.LaidErr
import Derived.Lib.LaidTab
import Derived.SevenTiedAt
import Derived.Test.YtmeblifbkhpdnaaDoorWSized
namespace Go.Proofs.YtmeblifbkhpdnaaDoor.K
set_option linter.unusedVariables false
set_option linter.unusedSimpArgs false
open Go.RowKit Go.Proofs.YtmeblifbkhpdnaaDoorW.PrintWords Go.Proofs.YtmeblifbkhpdnaaDoorW.PrintLast Go.Proofs.YtmeblifbkhpdnaaDoorW.PrintMore
/-! ### gimbalref00_EqBytes: function 12 -/
def gimbalref00_EqBytes.f (l0 : List Int) (l1 : List Int) : Option (Bool) := some ((strOfNums l0).toList == (strOfNums l1).toList)
set_option maxHeartbeats 8000000 in
set_option maxRecDepth 100000 in
theorem gimbalref00_EqBytes.calls (A0 : Option Addr) (c0 : Nat) (l0 : List Int) (A1 : Option Addr) (c1 : Nat) (l1 : List Int) (r : Bool) (w : World) (hr0 : Kd.C (Kd.int .u8) w A0 l0.length l0) (hc0 : l0.length ≤ c0) (hr1 : Kd.C (Kd.int .u8) w A1 l1.length l1) (hc1 : l1.length ≤ c1) (h : gimbalref00_EqBytes.f l0 l1 = some r) :
    Calls Tryd.prog 12 #[.slice A0 l0.length c0, .slice A1 l1.length c1] w fun e w' => e = .returned (.bool r) ∧ Drawn0 w w' := by
  have HR0 := Aside0.mk hr0
  have HC0 := Aside0.mk hc0
  clear hr0 hc0
  have HR1 := Aside0.mk hr1
  have HC1 := Aside0.mk hc1
  clear hr1 hc1
  have H : (some ((strOfNums l0).toList == (strOfNums l1).toList)) = some r := h
  clear h
  obtain rfl := Option.some.inj H
  have hcv3 := Kd.C_string (P := Tryd.prog) (A := A0) (c := c0) Tryd.underlying22 Tryd.underlying5 Tryd.underlying9 HR0.out
  have hcv4 := Kd.C_string (P := Tryd.prog) (A := A1) (c := c1) Tryd.underlying22 Tryd.underlying5 Tryd.underlying9 HR1.out
  go_enter Tryd.func12, Tryd.ntmps12
  go_wp2
  go_ret
  exact ⟨by first | rfl | (simp; done) | (simp [*]; done), by repeat (first | exact Drawn0.refl _ | apply Drawn0.step)⟩

-- NOT PRINTED: function 34 (bits_Varint)

-- NOT PRINTED: function 37 (bits_Text)

-- NOT PRINTED: function 91 (item_text)

-- NOT PRINTED: function 92 (item_number)


def r0 : Rec := ⟨1, 300, 1, 0, zEnt, []⟩
theorem r0_ok : recOk r0 = true := by
  have h : sameEnt zEnt zEnt = true := (sameEnt_iff _ _).2 rfl
  have h2 : okN (rHas r0.f0) r0 3 = true := by decide
  have h3 : (bits .and .i64 (rHas r0.f0) 4 != 0) = false := by decide
  unfold recOk okE
  rw [h2, h3]
  simp only [Bool.false_eq_true, if_false]
  rw [show r0.f4 = zEnt from rfl, h]
  decide
theorem r0_w : RecW r0 := ⟨i64_zEnt, by simp [r0]⟩
theorem r0_body : body r0 = [1, 172, 2, 1] := by
  have h1 : vEnc 300 = [172, 2] := by rw [vEnc_hi 300 (by omega), vEnc_lo _ (by omega)]; rfl
  have h2 : vEnc 1 = [1] := vEnc_lo 1 (by omega)
  rw [body_eq]
  have a0 : nB (rHas r0.f0) r0 0 = [] := by unfold nB; rw [if_neg (by decide)]
  have a1 : nB (rHas r0.f0) r0 1 = vEnc 300 := by unfold nB; rw [if_pos (by decide)]; rfl
  have a2 : nB (rHas r0.f0) r0 2 = vEnc 1 := by unfold nB; rw [if_pos (by decide)]; rfl
  have a3 : (bits .and .i64 (rHas r0.f0) 4 != 0) = false := by decide
  have a4 : (bits .and .i64 (rHas r0.f0) 8 != 0) = false := by decide
  rw [a0, a1, a2, a3, a4, h1, h2]
  rfl
theorem r0_bytes : ∃ t : List Int, recB r0 = [0, 4, 255, 251, 1, 172, 2, 1] ++ t ∧ t.length = 4 := by
  refine ⟨beB 4 (crcI (sealed (body r0))).toNat, ?_, beB_len 4 _⟩
  unfold recB
  rw [r0_body]
  rfl
theorem r0_len : (recB r0).length = 12 := by
  obtain ⟨t, h, hl⟩ := r0_bytes
  rw [h, List.length_append, hl]
  rfl
theorem r0_scan : pScan (recB r0) = ([r0], 12, 0) := by
  have h := pScan_enc [r0] [] (by intro r hr; rw [List.mem_singleton.1 hr]; exact ⟨r0_ok, r0_w⟩)
  have e : jB [r0] = recB r0 := List.append_nil _
  rw [e, List.append_nil, r0_len, pScan_nil] at h
  exact h
theorem r0_torn : pScan ((recB r0).take 11) = ([], 0, 0) := pScan_stop _ 0 (scan1_torn r0 11 r0_ok r0_w (by rw [r0_len]; omega))
theorem r0_turned : pScan ((recB r0).set 0 1) = ([], 0, 150) := by
  have hg : (recB r0)[0]? = some 0 := by
    obtain ⟨t, h, hl⟩ := r0_bytes
    rw [h]
    rfl
  have h := scan1_turned r0 [] 0 1 r0_ok r0_w (by rw [r0_len]; omega) (by omega) (by rw [List.getElem?_eq_getElem (by rw [r0_len]; omega)] at hg; rw [Option.some.inj hg]; omega) bytes_nil
  rw [List.append_nil] at h
  exact pScan_stop _ 150 h
theorem r0_three : pScan [0, 4, 255] = ([], 0, 0) := rfl
/-- EqBytes of the same bytes. -/
theorem eqBytes_same (w : World) (A0 : Option Addr) (c0 : Nat) (l0 : List Int) (A1 : Option Addr) (c1 : Nat) (l1 : List Int) (hr0 : Kd.C (Kd.int .u8) w A0 l0.length l0) (hc0 : l0.length ≤ c0) (hr1 : Kd.C (Kd.int .u8) w A1 l1.length l1) (hc1 : l1.length ≤ c1) (h : l0 = l1) :
    Calls Tryd.prog 12 #[.slice A0 l0.length c0, .slice A1 l1.length c1] w fun e w' => e = .returned (.bool true) ∧ Below w.heap.size w w' :=
  (gimbalref00_EqBytes.calls A0 c0 l0 A1 c1 l1 true w hr0 hc0 hr1 hc1 (by unfold gimbalref00_EqBytes.f; rw [h]; simp)).mono fun e w' h => ⟨h.1, h.2.below⟩
/-- A Scan told. -/
theorem scan_told (l : List Int) (rs : List Rec) (n : Nat) (e : Int) (hp : pScan l = (rs, n, e)) (hb : CrcMath.Bytes l) (hl : l.length < 1099511627776) (w : World) (hG : GItem w) (hH : GRec w) (A : Option Addr) (c : Nat) (hC : Kd.C (Kd.int .u8) w A l.length l) (hc : l.length ≤ c) :
    Calls Tryd.prog 9 #[.slice A l.length c] w fun en w' => ∃ A' c', en = .returned (.tuple #[.slice A' rs.length c', .int .i64 (n : Int), .int .i64 e]) ∧ Kd.R kRec 41 w' w.heap.size (fun _ => True) (.slice A' rs.length c') rs ∧ Below w.heap.size w w' := by
  refine (record_Scan w A c l hG hH hC hc hb hl).mono ?_
  rintro en w' ⟨v, h1, h2, h3⟩
  rw [hp] at h1 h2
  obtain ⟨A', c', rfl⟩ := Kd.R_slice h2
  exact ⟨A', c', h1, h2, h3⟩
theorem view_cell {w : World} {base : Nat} {A : Option Addr} {c : Nat} (hR : Kd.R kRec 41 w base (fun _ => True) (.slice A [r0].length c) [r0]) : ∃ g : Nat, A = some ⟨g, 0, none⟩ ∧ base ≤ g ∧ w.cell? ⟨g, 1, none⟩ = some (.int .i64 300) := by
  obtain ⟨g, c', h1, h2, h3, h4⟩ := Kd.R_form hR (by simp)
  injection h1 with h5 h6 h7
  subst h5
  obtain ⟨_, _, hC⟩ := Kd.R_reads' hR
  obtain ⟨ad, _, _, _, _, e, _, h8, _⟩ := at_T41 hC 0 (by omega) (by simp)
  have e := Option.some.inj e
  subst e
  exact ⟨g, rfl, h2, h8⟩
set_option maxRecDepth 20000 in
set_option maxHeartbeats 8000000 in
theorem works_runs (w : World) (hG : GItem w) (hH : GRec w) : Calls Tryd.prog 13 #[] w fun en w' => en = .returned (.bool true) ∧ Below w.heap.size w w' := by
  have HG := Aside0.mk hG
  have HH := Aside0.mk hH
  have HM := Aside0.mk (record_Bytes w none none 0 0 r0 hG hH (Kd.C_nil _ _) (Nat.le_refl _) (Kd.C_nil _ _) (Nat.le_refl _) r0_w)
  clear hG hH
  have hE : recE r0 = 0 := recE_zero r0 r0_ok
  have hR : recR r0 = recB r0 := by unfold recR; rw [r0_ok]; rfl
  rw [hE, hR] at HM
  clear hE hR
  generalize hb0 : recB r0 = b0 at HM
  have hlen : b0.length = 12 := by rw [← hb0]; exact r0_len
  have HLEN := Aside0.mk hlen
  have HB0 := Aside0.mk hb0
  clear hlen hb0
  go_enter Tryd.func13, Tryd.ntmps13
  go_upto_region 2 with (first | (go_at_call 14; refine HM.out.mono ?_; rintro en w1 ⟨v, rfl, hv, hb⟩; have HO := Aside0.mk hv; have HB := Aside0.mk hb; clear hv hb))
  have HG1 := Aside0.mk (HG.out.below HB.out)
  have HH1 := Aside0.mk (HH.out.below HB.out)
  clear HM
  obtain ⟨g, c, rfl, hg0, hg1, hg2⟩ := Kd.R_form HO.out (by rw [HLEN.out]; omega)
  have HGB := Aside0.mk hg0
  have HGL := Aside0.mk hg1
  clear hg0 hg1 hg2
  -- the cut of eight bytes
  obtain ⟨hc8, hC8, hl8⟩ := bytes_take .i64 (some ⟨g, 0, none⟩) c b0 8 (by rw [HLEN.out]; omega) (Kd.R_reads' HO.out).2.1
  obtain ⟨hc11, hC11, hl11⟩ := bytes_take .i64 (some ⟨g, 0, none⟩) c b0 11 (by rw [HLEN.out]; omega) (Kd.R_reads' HO.out).2.1
  have HC8 := Aside0.mk hC8
  have HC11 := Aside0.mk hC11
  have HL8 := Aside0.mk hl8
  have HL11 := Aside0.mk hl11
  rw [HLEN.out] at hc8 hc11 HO ⊢
  clear hC8 hC11 hl8 hl11
  replace hc8 : ∀ W : World, (Instr.slice 22 (.slice (some ⟨g, 0, none⟩) 12 c) none (some (.int .i64 8)) none).run Tryd.prog W = .ok (.slice (some ⟨g, 0, none⟩) 8 c) W := hc8
  replace hc11 : ∀ W : World, (Instr.slice 22 (.slice (some ⟨g, 0, none⟩) 12 c) none (some (.int .i64 11)) none).run Tryd.prog W = .ok (.slice (some ⟨g, 0, none⟩) 11 c) W := hc11
  have hEQ : ∀ W : World, Below w1.heap.size w1 W → Calls Tryd.prog 12 #[.slice (some ⟨g, 0, none⟩) 8 c, .slice (some ⟨W.heap.size, 0, none⟩) 8 8] (W.alloc (.cells (nums .u8 [0, 4, 255, 251, 1, 172, 2, 1]).toArray 5)) fun e w' => e = .returned (.bool true) ∧ Below (W.alloc (.cells (nums .u8 [0, 4, 255, 251, 1, 172, 2, 1]).toArray 5)).heap.size (W.alloc (.cells (nums .u8 [0, 4, 255, 251, 1, 172, 2, 1]).toArray 5)) w' := by
    intro W hW
    have hW2 := below_alloc hW (.cells (nums .u8 [0, 4, 255, 251, 1, 172, 2, 1]).toArray 5)
    have h1 := Kd.C_below (HC8.out _ (Kd.R_reads' HO.out).2.2) hW2
    have h2 := lit_C .u8 W 5 (0, 0) [0, 4, 255, 251, 1, 172, 2, 1] (by decide)
    have h3 := eqBytes_same _ _ c (b0.take 8) _ 8 [0, 4, 255, 251, 1, 172, 2, 1] h1 (by rw [HL8.out]; have := (Kd.R_reads' HO.out).2.1; omega) h2 (Nat.le_refl _) (by
      obtain ⟨t, ht, _⟩ := r0_bytes
      rw [← HB0.out, ht]
      rfl)
    rw [HL8.out] at h3
    exact h3
  have HEQ := Aside0.mk hEQ
  clear hEQ
  go_upto_region 4 with (first | (go_at_call 12; refine (HEQ.out _ (Below.refl _ _)).mono ?_; rintro en w2 ⟨rfl, hb⟩; have HB2 := Aside0.mk (bnext (Below.refl _ _) _ hb); clear hb))
  clear HEQ HC8 HL8 hc8
  -- the first Scan
  have HC12 := Aside0.mk (Kd.R_reads' HO.out).2
  have HS1 := Aside0.mk (scan_told b0 [r0] 12 0 (by rw [← HB0.out]; exact r0_scan) (by rw [← HB0.out]; exact recB_bytes r0) (by rw [HLEN.out]; omega) w2 (HG1.out.below HB2.out) (HH1.out.below HB2.out) (some ⟨g, 0, none⟩) c (Kd.C_below HC12.out.2 HB2.out) (by rw [HLEN.out]; exact HC12.out.1))
  rw [HLEN.out] at HS1
  go_upto_region 5 with (first | (go_at_call 9; refine HS1.out.mono ?_; rintro en w3 ⟨A1, c1, rfl, hv, hb⟩; have HV := Aside0.mk hv; have HB3 := Aside0.mk (HB2.out.trans (hb.mono HB2.out.size)); clear hv hb))
  clear HS1
  obtain ⟨g1, rfl, hg1, hvc⟩ := view_cell HV.out
  have HVC := Aside0.mk hvc
  have HGE := Aside0.mk (Nat.le_trans HB2.out.size hg1)
  clear hvc hg1 HV HB2
  -- the second
  have HS2 := Aside0.mk (scan_told (b0.take 11) [] 0 0 (by rw [← HB0.out]; exact r0_torn) (fun z hz => recB_bytes r0 z (by rw [HB0.out]; exact List.mem_of_mem_take hz)) (by rw [HL11.out]; omega) w3 (HG1.out.below HB3.out) (HH1.out.below HB3.out) (some ⟨g, 0, none⟩) c (Kd.C_below (HC11.out _ HC12.out.2) HB3.out) (by rw [HL11.out]; have := HC12.out.1; omega))
  rw [HL11.out] at HS2
  go_upto_region 6 with (first | (go_at_call 9; refine HS2.out.mono ?_; rintro en w4 ⟨A2, c2, rfl, _, hb⟩; have HB4 := Aside0.mk (HB3.out.trans (hb.mono HB3.out.size)); have HVC4 := Aside0.mk ((hb.cell (cell_blk HVC.out)).trans HVC.out); clear hb))
  clear HS2 HVC HB3 HC11 HL11 hc11 HC12
  -- the store
  have hO4 := Kd.R_below HO.out HB4.out
  obtain ⟨hcell, hfro⟩ := Kd.R_celln 0 hO4 0 (by omega) (by omega)
  obtain ⟨hO5, hg5⟩ := Kd.R_putg hO4 0 1
  replace hO5 : Kd.R (Kd.int .u8) 5 (w4.setCell ⟨g, 0, none⟩ (.int .u8 1)) w.heap.size (fun _ => True) (.slice (some ⟨g, 0, none⟩) 12 c) (b0.set 0 1) := hO5
  replace hg5 : w4.grownBy (w4.setCell ⟨g, 0, none⟩ (.int .u8 1)) (some g) := hg5
  have hB5 : Below w.heap.size w (w4.setCell ⟨g, 0, none⟩ (.int .u8 1)) := below_grownG (HB.out.trans (HB4.out.mono HB.out.size)) hg5 HGB.out
  have HO5 := Aside0.mk hO5
  have HB5 := Aside0.mk hB5
  clear hO4 hO5 hg5 hB5 HO HB4 HB
  replace hcell : w4.cell? ⟨g, 0, none⟩ = some (.int .u8 (rd b0 0)) := hcell
  replace hfro : w4.frozen? ⟨g, 0, none⟩ = false := hfro
  have HVC5 := Aside0.mk ((World.cell?_setCell_far w4 ⟨g, 0, none⟩ ⟨g1, 1, none⟩ (.int .u8 1) (by have := HGL.out; have := HGE.out; show g ≠ g1; omega)).trans HVC4.out)
  go_upto_region 7 with fail
  clear hcell hfro HVC4 HGE HGL HG1 HH1
  generalize w4.setCell ⟨g, 0, none⟩ (.int .u8 1) = w5 at *
  -- the third
  have hl5 : (b0.set 0 1).length = 12 := by rw [List.length_set, HLEN.out]
  have hC5 := (Kd.R_reads' HO5.out).2
  have HS3 := Aside0.mk (scan_told (b0.set 0 1) [] 0 150 (by rw [← HB0.out]; exact r0_turned) (by rw [← HB0.out]; exact bytes_set (recB_bytes r0) 0 1 (by omega)) (by rw [hl5]; omega) w5 (HG.out.below HB5.out) (HH.out.below HB5.out) (some ⟨g, 0, none⟩) c hC5.2 (by rw [hl5]; exact hC5.1))
  rw [hl5] at HS3
  clear hl5 hC5
  go_upto_region 8 with (first | (go_at_call 9; refine HS3.out.mono ?_; rintro en w6 ⟨A3, c3, rfl, _, hb⟩; have HB6 := Aside0.mk (HB5.out.trans (hb.mono HB5.out.size)); have HVC6 := Aside0.mk ((hb.cell (cell_blk HVC5.out)).trans HVC5.out); clear hb))
  clear HS3 HVC5 HB5 HO5
  -- the fourth
  have hB7 := below_alloc (Below.refl w6.heap.size w6) (.cells (nums .u8 [0, 4, 255]).toArray 5)
  have HB7 := Aside0.mk (HB6.out.trans (hB7.mono HB6.out.size))
  have HVC7 := Aside0.mk ((hB7.cell (cell_blk HVC6.out)).trans HVC6.out)
  have HS4 := Aside0.mk (scan_told [0, 4, 255] [] 0 0 r0_three (by intro z hz; simp at hz; omega) (by decide) (w6.alloc (.cells (nums .u8 [0, 4, 255]).toArray 5)) (HG.out.below HB7.out) (HH.out.below HB7.out) (some ⟨w6.heap.size, 0, none⟩) 3 (lit_C .u8 w6 5 (0, 0) [0, 4, 255] (by decide)) (Nat.le_refl _))
  clear hB7 HVC6 HB6
  go_upto_region 9 with (first | (go_at_call 9; refine HS4.out.mono ?_; rintro en w8 ⟨A4, c4, rfl, _, hb⟩; have HB8 := Aside0.mk (HB7.out.trans (hb.mono HB7.out.size)); have hvc8 := (hb.cell (cell_blk HVC7.out)).trans HVC7.out; clear hb))
  clear HS4 HVC7 HB7 HG HH
  go_wp2_with fail
  go_ret
  exact ⟨rfl, HB8.out⟩
end Go.Proofs.YtmeblifbkhpdnaaDoor.K
/- The law RecordAgain, walked. -/
namespace Go.Proofs.YtmeblifbkhpdnaaDoor.K
set_option linter.unusedVariables false
set_option linter.unusedSimpArgs false
open Go.RowKit Go.Proofs.YtmeblifbkhpdnaaDoorW.PrintWords Go.Proofs.YtmeblifbkhpdnaaDoorW.PrintLast Go.Proofs.YtmeblifbkhpdnaaDoorW.PrintMore
attribute [local go_sem] max2_int min2_int
theorem rd_R_at (l : List Rec) (k : Nat) (h : k < l.length) : rd_T41 l (k : Int) = l[k] := by
  simp [rd_T41, List.getD_eq_getElem?_getD, List.getElem?_eq_getElem h]
theorem rec_at {w wr : World} {A : Option Addr} {l : List Rec} (h : kRec.C w A l.length l) (hb : Below w.heap.size w wr) (k : Nat) (hk : k < l.length) :
    ∃ ad A6 c6 A7 c7, A = some ad ∧ (wr.cell? (ad.add (k * 12)) = some (.int .i64 l[k].f0) ∧ wr.cell? ⟨(ad.add (k * 12)).block, (ad.add (k * 12)).off + 1, none⟩ = some (.int .i64 l[k].f1) ∧ wr.cell? ⟨(ad.add (k * 12)).block, (ad.add (k * 12)).off + 2, none⟩ = some (.int .i64 l[k].f2) ∧ wr.cell? ⟨(ad.add (k * 12)).block, (ad.add (k * 12)).off + 3, none⟩ = some (.int .i64 l[k].f3) ∧ wr.cell? ⟨(ad.add (k * 12)).block, (ad.add (k * 12)).off + 4, none⟩ = some (.int .i64 l[k].f4.f0) ∧ wr.cell? ⟨(ad.add (k * 12)).block, (ad.add (k * 12)).off + 5, none⟩ = some (.int .i64 l[k].f4.f1) ∧ wr.cell? ⟨(ad.add (k * 12)).block, (ad.add (k * 12)).off + 6, none⟩ = some (.int .i64 l[k].f4.f2.f0) ∧ wr.cell? ⟨(ad.add (k * 12)).block, (ad.add (k * 12)).off + 7, none⟩ = some (.string l[k].f4.f2.f1) ∧ wr.cell? ⟨(ad.add (k * 12)).block, (ad.add (k * 12)).off + 8, none⟩ = some (.int .i64 l[k].f4.f2.f2) ∧ wr.cell? ⟨(ad.add (k * 12)).block, (ad.add (k * 12)).off + 9, none⟩ = some (.int .i64 l[k].f4.f2.f3) ∧ wr.cell? ⟨(ad.add (k * 12)).block, (ad.add (k * 12)).off + 10, none⟩ = some (.slice A6 l[k].f4.f2.f4.length c6) ∧ wr.cell? ⟨(ad.add (k * 12)).block, (ad.add (k * 12)).off + 11, none⟩ = some (.slice A7 l[k].f5.length c7)) ∧ l[k].f4.f2.f4.length ≤ c6 ∧ kLine.C wr A6 l[k].f4.f2.f4.length l[k].f4.f2.f4 ∧ l[k].f5.length ≤ c7 ∧ kEnt.C wr A7 l[k].f5.length l[k].f5 := by
  obtain ⟨ad, A6, c6, A7, c7, e1, h0, h1, h2, h3, h4, h5, h6, h7, h8, h9, h10, h11, q1, q2, q3, q4⟩ := at_T41 h (k : Int) (by omega) (by omega)
  rw [rd_R_at l k hk] at h0 h1 h2 h3 h4 h5 h6 h7 h8 h9 h10 h11 q1 q2 q3 q4
  rw [Int.toNat_natCast] at h0 h1 h2 h3 h4 h5 h6 h7 h8 h9 h10 h11
  exact ⟨ad, A6, c6, A7, c7, e1, ⟨(hb.cell (cell_blk h0)).trans h0, (hb.cell (cell_blk h1)).trans h1, (hb.cell (cell_blk h2)).trans h2, (hb.cell (cell_blk h3)).trans h3, (hb.cell (cell_blk h4)).trans h4, (hb.cell (cell_blk h5)).trans h5, (hb.cell (cell_blk h6)).trans h6, (hb.cell (cell_blk h7)).trans h7, (hb.cell (cell_blk h8)).trans h8, (hb.cell (cell_blk h9)).trans h9, (hb.cell (cell_blk h10)).trans h10, (hb.cell (cell_blk h11)).trans h11⟩, q1, Kd.C_below q2 hb, q3, Kd.C_below q4 hb⟩
theorem takeJ_snoc (rs : List Rec) (k : Nat) (h : k < rs.length) : jB (rs.take (k + 1)) = jB (rs.take k) ++ recB rs[k] := by
  rw [List.take_succ_eq_append_getElem h, jB_append]
  simp [jB]
theorem takeJ_le (rs : List Rec) (k : Nat) : (jB (rs.take k)).length ≤ (jB rs).length := by
  conv => rhs; rw [← List.take_append_drop k rs]
  rw [jB_append, List.length_append]
  omega
/-- The first so many. -/
theorem cut_min (l : List Int) (n : Int) (h0 : 0 ≤ n) : min (l.length : Int) n = ((min l.length n.toNat : Nat) : Int) := by omega
set_option maxRecDepth 20000 in
set_option maxHeartbeats 8000000 in
theorem again_runs (w : World) (A : Option Addr) (c : Nat) (l : List Int) (hG : GItem w) (hH : GRec w) (hC : Kd.C (Kd.int .u8) w A l.length l) (hc : l.length ≤ c) (hb : CrcMath.Bytes l) :
    Calls Tryd.prog 4 #[.slice A l.length c] w fun en w' => en = .returned (.bool true) ∧ Below w.heap.size w w' := by
  have HG := Aside0.mk hG
  have HH := Aside0.mk hH
  obtain ⟨hcut, hC1, hl1⟩ := bytes_take .i64 A c l (min l.length 6000) (Nat.min_le_left _ _) hc
  have hm : min (l.length : Int) 6000 = ((min l.length 6000 : Nat) : Int) := cut_min l 6000 (by omega)
  rw [← hm] at hcut
  obtain ⟨l1, hl⟩ : ∃ l1, l1 = l.take (min l.length 6000) := ⟨_, rfl⟩
  have hb1 : CrcMath.Bytes l1 := by rw [hl]; exact fun z hz => hb z (List.mem_of_mem_take hz)
  rw [← hl] at hC1 hl1
  have hc1 : l1.length ≤ c := by omega
  have h6 : l1.length ≤ 6000 := by omega
  have HC1 := Aside0.mk (hC1 w hC)
  rw [← hl1] at hcut
  have HCC := Aside0.mk hc1
  have H6 := Aside0.mk h6
  have HS := Aside0.mk (record_Scan w A c l1 hG hH HC1.out hc1 hb1 (by omega))
  obtain ⟨p1, p2, p3, p4⟩ := pScan_dec l1 hb1
  generalize pScan l1 = p at HS p1 p2 p3 p4
  obtain ⟨rs, n, e⟩ := p
  simp only at HS p1 p2 p3 p4
  have HP1 := Aside0.mk p1
  have HP2 := Aside0.mk p2
  have HP3 := Aside0.mk p3
  have HP4 := Aside0.mk p4
  clear p1 p2 p3 p4 hb hb1 hc1 h6 hC hC1 hG hH hl hl1 hm hc
  go_enter Tryd.func4, Tryd.ntmps4
  go_upto_region 2 with fail
  clear hcut
  go_upto_region 3 with (first | (go_at_call 9; refine HS.out.mono ?_; rintro en w2 ⟨v, rfl, hv, hb⟩; have HV := Aside0.mk hv; have HB := Aside0.mk hb; clear hv hb))
  clear HS
  obtain ⟨A1, c1, hv, hcr, hR1⟩ := R_C HV.out
  subst hv
  have HR1 := Aside0.mk hR1
  have HLM := Aside0.mk hR1.2.1
  clear HV hR1 hcr
  go_wp2_with fail
  go_loopw [6, 7] (fun s6 s7 wr => ∃ k : Nat, k ≤ rs.length ∧ s7 = .int .i64 (k : Int) ∧ Aside0 (Kd.R (Kd.int .u8) 5 wr w2.heap.size (fun _ => True) s6 (jB (rs.take k))) ∧ Aside0 (Below w2.heap.size w2 wr)) (fun _ s7 _ => rs.length - (intOf s7).toNat)
  case atStart => exact ⟨0, Nat.zero_le _, rfl, ⟨Kd.R_nil _ _ _ _ _⟩, ⟨Below.refl _ _⟩⟩
  case round =>
    obtain ⟨k, hk, rfl, HO, HW⟩ := hrel
    by_cases hlt : k < rs.length
    · have hbt : decide ((k : Int) < (rs.length : Int)) = true := by simp; omega
      obtain ⟨ad, A6, c6, A7, c7, e1, ⟨h0, h1, h2, h3, h4, h5, h6, h7, h8, h9, h10, h11⟩, q1, q2, q3, q4⟩ := rec_at HR1.out HW.out k hlt
      cases e1
      have HT := Aside0.mk (takeJ_snoc rs k hlt)
      have hx := HP1.out rs[k] (List.getElem_mem hlt)
      have hle := takeJ_le rs k
      have hle2 := takeJ_le rs (k + 1)
      rw [HT.out] at hle2
      have hn := congrArg List.length HP2.out
      rw [List.length_take] at hn
      have HLE := Aside0.mk (show (jB (rs.take k)).length + (recB rs[k]).length ≤ 6000 by rw [List.length_append] at hle2; have := H6.out; omega)
      clear hle hle2 hn
      have hBB := HB.out.trans (HW.out.mono HB.out.size)
      generalize rs[k] = x at *
      have HM := Aside0.mk (record_Bytes wr A6 A7 c6 c7 x (HG.out.below hBB) (HH.out.below hBB) q2 q1 q4 q3 hx.2)
      have hR : recR x = recB x := by unfold recR; rw [hx.1]; rfl
      rw [recE_zero x hx.1, hR] at HM
      clear hR hx hBB q1 q2 q3 q4
      obtain ⟨row, hrow⟩ : ∃ row, row = jB (rs.take k) := ⟨_, rfl⟩
      rw [← hrow] at HO HLE HT
      obtain ⟨xb, hxb⟩ : ∃ xb, xb = recB x := ⟨_, rfl⟩
      rw [← hxb] at HLE HT HM
      clear hrow hxb
      go_wp2_with (first
        | (go_at_call 14; refine HM.out.mono ?_; rintro en w3 ⟨v, rfl, hv, hb⟩; obtain ⟨A3, c3, e3, hc3, hr3⟩ := R_C hv; subst e3; have HR3 := Aside0.mk hr3; have HO3 := Aside0.mk (Kd.R_below HO.out hb); have HW3 := Aside0.mk (HW.out.trans (hb.mono HW.out.size)); clear hv hb hr3)
        | ((with_reducible refine gate_builtin (b := .append) (xs := #[.tmp 37, .tmp 38]) rfl ?_); at_builtin; refine Kd.R_append_rows (Kd.int .u8) (w0 := w2) w2.heap.size rfl (.tmp 37) (.tmp 38) 22 5 (.int .u8 0) 1 rfl Tryd.underlying22 infou8 rfl (by decide) (by omega) (_) (row) (xb) _ _ _ (fun _ => True) (fun _ => False) rfl rfl ?aO ?aR (fun _ _ h => h) (fun _ h => h.elim) ?aF ?aB ?aS ?aL ?_; (case aR => repeat (first | exact HR3.out | (with_reducible refine Kd.C_alloc ?_ _) | (with_reducible refine Kd.C_drewN ?_ _) | (with_reducible refine Kd.C_drew ?_))); (case aB => exact (by repeat (first | (with_reducible first | exact HW3.out | apply below_alloc | apply pw_below_drewN | apply below_drew1) | exact HW3.out))); (case aF => exact (fun _ _ => trivial)); (case aO => exact (by (with_reducible repeat (first | apply Kd.R_alloc | apply Kd.R_drewN | apply Kd.R_drew)); exact HO3.out)); (case aS => exact (below_size (by repeat (first | (with_reducible first | exact HW3.out | apply below_alloc | apply pw_below_drewN | apply below_drew1) | exact HW3.out)))); (case aL => (have h := HLE.out; omega)); intro v7 w7 hv hw hg7 hat7; clear hg7 hat7))
      have HO4 := Aside0.mk hv
      have HW4 := Aside0.mk hw
      clear hv hw
      have hwk := wrap_next rs.length k hlt HLM.out
      go_roundw
      case rel => exact ⟨k + 1, by omega, by rw [hwk], ⟨by rw [HT.out]; exact HO4.out⟩, HW4⟩
      case measure => exact meas_step rs.length k hlt hwk
    · have hbt : decide ((k : Int) < (rs.length : Int)) = false := by simp; omega
      obtain rfl : k = rs.length := by omega
      rw [List.take_length] at HO
      obtain ⟨A6, c6, hv, hc6, hr6⟩ := R_C HO.out
      subst hv
      obtain ⟨hcn, hCn, hln⟩ := bytes_take .i64 A c l1 n HP3.out HCC.out
      have hBB := HB.out.trans (HW.out.mono HB.out.size)
      have hEQ := eqBytes_same wr A6 c6 (jB rs) A c (l1.take n) hr6 hc6 (Kd.C_below (hCn w HC1.out) hBB) (by rw [hln]; have := HP3.out; have := HCC.out; omega) HP2.out
      rw [hln] at hEQ
      have HEQ := Aside0.mk hEQ
      have HBB := Aside0.mk hBB
      have hd0 : decide (0 ≤ (n : Int)) = true := decide_eq_true (by omega)
      have hd1 : decide ((n : Int) ≤ (l1.length : Int)) = true := decide_eq_true (by have := HP3.out; omega)
      have hd3 : n ≤ l1.length := HP3.out
      clear hEQ hBB hr6 hc6 hCn hln HO HW HB HR1 HP1 HP2 HP3 HC1 HCC H6 HLM hk hlt
      have HWK := Aside0.mk (fun W (hW : Below w.heap.size w W) => works_runs W (HG.out.below hW) (HH.out.below hW))
      clear HG HH
      rcases HP4.out with rfl | ⟨rfl, h5⟩
      · clear HP4
        go_wp2_with (first
          | (go_at_call 12; refine HEQ.out.mono ?_; rintro en w3 ⟨rfl, hb⟩; have HB3 := Aside0.mk (HBB.out.trans (hb.mono HBB.out.size)); clear hb)
          | (go_at_call 13; refine (HWK.out _ HB3.out).mono ?_; rintro en w4 ⟨rfl, hb⟩; have HB4 := Aside0.mk (HB3.out.trans (hb.mono HB3.out.size)); clear hb))
        go_ret
        exact ⟨rfl, HB4.out⟩
      · clear HP4
        have hd2 : decide ((n : Int) < (l1.length : Int)) = true := decide_eq_true (by omega)
        go_wp2_with (first
          | (go_at_call 12; refine HEQ.out.mono ?_; rintro en w3 ⟨rfl, hb⟩; have HB3 := Aside0.mk (HBB.out.trans (hb.mono HBB.out.size)); clear hb)
          | (go_at_call 13; refine (HWK.out _ HB3.out).mono ?_; rintro en w4 ⟨rfl, hb⟩; have HB4 := Aside0.mk (HB3.out.trans (hb.mono HB3.out.size)); clear hb))
        go_ret
        exact ⟨rfl, HB4.out⟩
end Go.Proofs.YtmeblifbkhpdnaaDoor.K
/- What the rows' listed variables give; words of the laws' frames. -/
namespace Go.Proofs.YtmeblifbkhpdnaaDoor.Lw
open Go.ChangeShapes Go.WideShapes Go.ChangeAt Go.RowKit
open Go.ChangeMaps (open_string shut_string)
set_option linter.unusedVariables false
theorem own : ownKnob Tryd.prog.godebug = none := by kernel_rfl
theorem laidOut : laidOutB Tryd.prog = true := by kernel_rfl
abbrev laid : List (String × DataW Unit) := [("gimbal/item.kinds", Rows.laid_gimbal_item_kinds), ("gimbal/record.kinds", Rows.laid_gimbal_record_kinds)]
theorem gItem : Tryd.prog.globalNamed "gimbal/item.kinds" = some 1 := by kernel_rfl
theorem gRec : Tryd.prog.globalNamed "gimbal/record.kinds" = some 0 := by kernel_rfl
theorem tItem : (Tryd.prog.globals[1]?).map (·.type) = some 125 := by kernel_rfl
theorem tRec : (Tryd.prog.globals[0]?).map (·.type) = some 104 := by kernel_rfl
/-- What the condition gives the walks. -/
theorem of_laid {W : World} (h : laidMetH Tryd.prog laid W) : K.GItem W ∧ K.GRec W := by
  rw [MakeChecks.laidMetH_plain _ _ _ (by kernel_rfl)] at h
  have h1 := Lib.tabIs_of_head (k := .i64) (zs := K.iTab) gItem tItem Tryd.underlying125 Tryd.underlying3 (by kernel_rfl) (by kernel_rfl) h
  have h2 := Lib.tabIs_of_head (k := .i64) (zs := K.rTab) gRec tRec Tryd.underlying104 Tryd.underlying3 (by kernel_rfl) (by kernel_rfl) (laidMet.tail h)
  refine ⟨fun j hj => ?_, fun j hj => ?_⟩
  · rw [h1.cell gItem j hj]; simp [Go.Proofs.YtmeblifbkhpdnaaDoorW.PrintWords.rd]
  · rw [h2.cell gRec j hj]; simp [Go.Proofs.YtmeblifbkhpdnaaDoorW.PrintWords.rd]
/-- The door's own heap meets the condition. -/
theorem door_met (os : Os) (args : Array Value) : laidMetH Tryd.prog laid ((World.doorLaid Tryd.prog 400 os).forCall (fun _ _ => 0) ⟨#[], args, []⟩).memory :=
  laidMetH_of_parts3 (fuel := 8) (laidMet_of_run' 8 (by kernel_rfl) (by kernel_rfl)) (by kernel_rfl) (by kernel_rfl)
def IsRow (k : IntKind) (w : World) (a : Option Addr) (len cap : Nat) (zs : List Int) : Prop :=
  (a = none ∧ len = 0 ∧ cap = 0 ∧ zs = []) ∨
  ∃ x, a = some x ∧ len ≤ cap ∧ cap ≤ maxLen ∧ zs.length = cap ∧ (∀ i, i < zs.length → w.cell? (x.add i) = some (.int k (zs.getD i 0))) ∧ ∀ n ∈ zs, (Lit.int k n).wf = true
theorem bytes_of_wf {l : List Int} (h : ∀ x ∈ l, (Lit.int .u8 x).wf = true) : CrcMath.Bytes l := by
  intro c hc
  have := h c hc
  have e0 : IntKind.u8.min = 0 := by decide
  have e1 : IntKind.u8.max = 255 := by decide
  simp [Lit.wf, e0, e1] at this
  omega
end Go.Proofs.YtmeblifbkhpdnaaDoor.Lw
/- gimbal/gimballaw14.RecordAgain: whatever the bytes, the law returns true, and the argument reads behind the call as it read before; the tied card. Conditions: none beyond the row's own (the two tables read as the program's text lays them). -/
namespace Go.Proofs.YtmeblifbkhpdnaaDoor.recordAgain
open Go.ChangeShapes Go.WideShapes Go.ChangeAt Go.RowKit
open Go.ChangeMaps (open_string shut_string)
set_option linter.unusedVariables false
set_option maxRecDepth 100000 in
theorem lifted (os : Os) (started : os.Started) (H : Type) (enc : TypeId × Value → H) :
    ReturnsInHanded {} Tryd.checked os 4 .any (fun w args => (Rows.recordAgainSpec.pre enc Tryd.prog Tryd.f4 [] false w args ∧ laidMetH Tryd.prog Lw.laid w) ∧ sizedMet enc Tryd.prog Tryd.f4 (OpenSpec.ofChange Rows.recordAgainSpec) false w args)
      (Rows.recordAgainSpec.post enc Tryd.prog Tryd.f4 false true false false) := by
  refine returnsInHanded_of_change_and (C := Tryd.checked) (X := fun w _ => laidMetH Tryd.prog Lw.laid w) (fun _ _ _ hh h => h.of_heap hh) Lw.own started (by kernel_rfl) Tryd.func4
    (ChangeSpec.witness_shaped (enc := enc) (C := Tryd.checked) (os := os) (X := fun w _ => laidMetH Tryd.prog Lw.laid w) false (World.doorLaid Tryd.prog 400 os) #[.slice none 0 0] 8 rfl (World.shaped_of_RefB (by kernel_rfl) (by kernel_rfl)) (by kernel_rfl) (by kernel_rfl) (by kernel_rfl) (Lw.door_met os _)) ?_
  intro W base args ds gs before hval0 hW hcnd hsz0 hL _
  have hsz : (DataW.weightsEach Tryd.prog (Tryd.f4.params.toList ++ Rows.recordAgainSpec.plain.varTypes Tryd.prog) (ds ++ gs)).all (· ≤ reachBytes) = true := hsz0
  have hval : ∀ (j : Nat) t v, Tryd.f4.params[j]? = some t → args[j]? = some v → Value.okWide Tryd.prog W .any base t v := hval0
  have hW' := hW
  obtain ⟨p, q, hA0, hV, rfl, hfz, hnd⟩ := hW
  have hA : DataW.TrodAll enc Tryd.prog W 0 (fun _ => true) true Tryd.f4.params.toList args.toList ds p := hA0
  rw [Tryd.params4] at hA hval hsz
  obtain ⟨v0, vs0, d0, ds0, p0, q0, hargs, rfl, rfl, h0, r0⟩ := trodAll_cons hA
  obtain ⟨rfl, rfl, rfl⟩ := trodAll_nil r0
  obtain rfl : args = #[v0] := by cases args; simp_all
  obtain ⟨rfl, rfl⟩ := trodVars_none hV
  obtain ⟨a0, len0, cap0, rfl⟩ := okWide_slice Tryd.underlying22 (hval 0 22 v0 rfl rfl)
  have k0 := h0
  have lt0 : ∀ x ∈ p0, x.block < W.heap.size := by obtain ⟨m, hm⟩ := k0; exact DataW.trod_lt m _ _ _ hm
  obtain ⟨z0, w0⟩ : ∃ zs, Lw.IsRow .u8 W a0 len0 cap0 zs := by
    obtain ⟨fuel, hf⟩ := h0
    rcases open_ints Tryd.underlying22 Tryd.underlying5 (by kernel_rfl) hf with ⟨hcs, _⟩ | ⟨x, l, c, zs, hcs, _, hl, hm, hz, _, hcell, hwz⟩
    · simp [Value.cells] at hcs
      obtain ⟨rfl, rfl, rfl⟩ := hcs
      exact ⟨[], .inl ⟨rfl, rfl, rfl, rfl⟩⟩
    · simp [Value.cells] at hcs
      obtain ⟨rfl, rfl, rfl⟩ := hcs
      exact ⟨zs, .inr ⟨_, rfl, hl, hm, by simpa using hz, hcell, hwz⟩⟩
  obtain ⟨hGI, hGR⟩ := Lw.of_laid hL
  clear hA0 hval0 hsz0 hsz
  obtain ⟨l0, rfl, hr0, hm0, hw0, hc0⟩ := Go.Proofs.YtmeblifbkhpdnaaDoorW.PrintWords.ReadsInt.ofRowC w0
  refine (K.again_runs W a0 cap0 l0 hGI hGR (Go.Proofs.YtmeblifbkhpdnaaDoorW.PrintWords.Kd.C_of_reads (d := (0 : Int)) (h1 := fun _ => rfl) hr0) hc0 (Lw.bytes_of_wf hw0)).mono fun e W' ⟨he, bel⟩ => ?_
  subst he
  exact ⟨_, rfl, _, _, _, [], _, [], hW', trodAll_mk1 (shut_bool Tryd.underlying4 _), (trodAll_cons_mk (Below.trod Lw.laidOut (by kernel_rfl) (of_decide_eq_true (by kernel_rfl)) k0 bel lt0) trodAll_mk0), rfl, bel.frame _, fun h => by cases h⟩
theorem over : Rows.recordAgainRow.holds Tryd.pinned (OpenSpec.ofChange Rows.recordAgainSpec) :=
  OpenClaim.holds_of_wide 4 Tryd.f4 rfl rfl rfl rfl rfl rfl rfl ⟨rfl, rfl, rfl, rfl, rfl⟩ rfl rfl rfl rfl rfl (by kernel_rfl) Tryd.func4 (by kernel_rfl)
    (of_decide_eq_true (by kernel_rfl)) (by unfold Func.isWrapper; first | (rw [if_pos (by decide +kernel)]; kernel_rfl) | (rw [if_neg (by decide +kernel)]; exact ⟨rfl, rfl⟩))
    (fun os started H enc _ => lifted os started H enc)
theorem card : Rows.RecordAgainCardSaid :=
  Claim7.holds_tied_plain_at .later [] [.data, .data] true (true, "ac748d212d0d79aa82e68b2273a819c1736f66a288add7512e8694986e20d5c1") false
    over (fun _ h => by cases h) (by kernel_rfl) (fun _ h => by cases h) recordAgain_row_tie rfl ⟨rfl, rfl⟩ (by kernel_rfl) rfl
    (fun f fn hf hfn => by
      obtain rfl : f = 4 := Option.some.inj ((show Tryd.prog.funcNamed "gimbal/gimballaw14.RecordAgain" = some 4 by kernel_rfl).symm.trans hf) |>.symm
      obtain rfl : fn = Tryd.f4 := (Option.some.inj (Tryd.func4.symm.trans hfn)).symm
      exact ⟨by kernel_rfl, fun j t ht => by
        rw [Tryd.params4] at ht
        have hm : t ∈ [22] := by simpa using Array.mem_of_getElem? ht
        have hall : ([22].all fun u => !Tryd.prog.wantsStandIn u) = true := by kernel_rfl
        exact (show Tryd.prog.wantsStandIn t = false by simpa using List.all_eq_true.1 hall t hm)⟩)
    (by kernel_rfl)
end Go.Proofs.YtmeblifbkhpdnaaDoor.recordAgain
namespace Go.Proofs.YtmeblifbkhpdnaaDoor
/-- The tied card, under a short name, for the claim. -/
theorem recordAgain_holds : Rows.RecordAgainCardSaid := recordAgain.card
#print axioms recordAgain_holds
end Go.Proofs.YtmeblifbkhpdnaaDoor
