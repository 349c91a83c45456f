/- The law's works: the chapter's record. -/
import Derived.Test.YtmeblifbkhpdnaaDoorGi
import Derived.Test.YtmeblifbkhpdnaaDoorTie
import Derived.Test.YtmeblifbkhpdnaaDoorCards
import Derived.WalkKit
import Derived.ProofKit
import Derived.OpenShut
import Derived.ShutString
import Derived.ChangeOld
import Derived.Below
import Derived.SizedLaws
import Derived.LaidMore
import Derived.Stop.Joined
import Derived.Stop.LaidErr
import Derived.Lib.LaidTab
import Derived.SevenTiedAt
import Derived.Test.YtmeblifbkhpdnaaDoorWSized
import Derived.Deep.Slices
namespace Go.Proofs.YtmeblifbkhpdnaaDoor.K
set_option linter.unusedVariables false
set_option linter.unusedSimpArgs false
open Go.RowKit Go.Proofs.YtmeblifbkhpdnaaDoorW.PrintWords Go.Proofs.YtmeblifbkhpdnaaDoorW.PrintLast Go.Proofs.YtmeblifbkhpdnaaDoorW.PrintMore
/-! ### gimbalref00_EqBytes: function 12 -/
def gimbalref00_EqBytes.f (l0 : List Int) (l1 : List Int) : Option (Bool) := some ((strOfNums l0).toList == (strOfNums l1).toList)
set_option maxHeartbeats 8000000 in
set_option maxRecDepth 100000 in
theorem gimbalref00_EqBytes.calls (A0 : Option Addr) (c0 : Nat) (l0 : List Int) (A1 : Option Addr) (c1 : Nat) (l1 : List Int) (r : Bool) (w : World) (hr0 : Kd.C (Kd.int .u8) w A0 l0.length l0) (hc0 : l0.length ≤ c0) (hr1 : Kd.C (Kd.int .u8) w A1 l1.length l1) (hc1 : l1.length ≤ c1) (h : gimbalref00_EqBytes.f l0 l1 = some r) :
    Calls Tryd.prog 12 #[.slice A0 l0.length c0, .slice A1 l1.length c1] w fun e w' => e = .returned (.bool r) ∧ Drawn0 w w' := by
  have HR0 := Aside0.mk hr0
  have HC0 := Aside0.mk hc0
  clear hr0 hc0
  have HR1 := Aside0.mk hr1
  have HC1 := Aside0.mk hc1
  clear hr1 hc1
  have H : (some ((strOfNums l0).toList == (strOfNums l1).toList)) = some r := h
  clear h
  obtain rfl := Option.some.inj H
  have hcv3 := Kd.C_string (P := Tryd.prog) (A := A0) (c := c0) Tryd.underlying22 Tryd.underlying5 Tryd.underlying9 HR0.out
  have hcv4 := Kd.C_string (P := Tryd.prog) (A := A1) (c := c1) Tryd.underlying22 Tryd.underlying5 Tryd.underlying9 HR1.out
  go_enter Tryd.func12, Tryd.ntmps12
  go_wp2
  go_ret
  exact ⟨by first | rfl | (simp; done) | (simp [*]; done), by repeat (first | exact Drawn0.refl _ | apply Drawn0.step)⟩

-- NOT PRINTED: function 34 (bits_Varint)

-- NOT PRINTED: function 37 (bits_Text)

-- NOT PRINTED: function 91 (item_text)

-- NOT PRINTED: function 92 (item_number)


def r0 : Rec := ⟨1, 300, 1, 0, zEnt, []⟩
theorem r0_ok : recOk r0 = true := by
  have h : sameEnt zEnt zEnt = true := (sameEnt_iff _ _).2 rfl
  have h2 : okN (rHas r0.f0) r0 3 = true := by decide
  have h3 : (bits .and .i64 (rHas r0.f0) 4 != 0) = false := by decide
  unfold recOk okE
  rw [h2, h3]
  simp only [Bool.false_eq_true, if_false]
  rw [show r0.f4 = zEnt from rfl, h]
  decide
theorem r0_w : RecW r0 := ⟨i64_zEnt, by simp [r0]⟩
theorem r0_body : body r0 = [1, 172, 2, 1] := by
  have h1 : vEnc 300 = [172, 2] := by rw [vEnc_hi 300 (by omega), vEnc_lo _ (by omega)]; rfl
  have h2 : vEnc 1 = [1] := vEnc_lo 1 (by omega)
  rw [body_eq]
  have a0 : nB (rHas r0.f0) r0 0 = [] := by unfold nB; rw [if_neg (by decide)]
  have a1 : nB (rHas r0.f0) r0 1 = vEnc 300 := by unfold nB; rw [if_pos (by decide)]; rfl
  have a2 : nB (rHas r0.f0) r0 2 = vEnc 1 := by unfold nB; rw [if_pos (by decide)]; rfl
  have a3 : (bits .and .i64 (rHas r0.f0) 4 != 0) = false := by decide
  have a4 : (bits .and .i64 (rHas r0.f0) 8 != 0) = false := by decide
  rw [a0, a1, a2, a3, a4, h1, h2]
  rfl
theorem r0_bytes : ∃ t : List Int, recB r0 = [0, 4, 255, 251, 1, 172, 2, 1] ++ t ∧ t.length = 4 := by
  refine ⟨beB 4 (crcI (sealed (body r0))).toNat, ?_, beB_len 4 _⟩
  unfold recB
  rw [r0_body]
  rfl
theorem r0_len : (recB r0).length = 12 := by
  obtain ⟨t, h, hl⟩ := r0_bytes
  rw [h, List.length_append, hl]
  rfl
theorem r0_scan : pScan (recB r0) = ([r0], 12, 0) := by
  have h := pScan_enc [r0] [] (by intro r hr; rw [List.mem_singleton.1 hr]; exact ⟨r0_ok, r0_w⟩)
  have e : jB [r0] = recB r0 := List.append_nil _
  rw [e, List.append_nil, r0_len, pScan_nil] at h
  exact h
theorem r0_torn : pScan ((recB r0).take 11) = ([], 0, 0) := pScan_stop _ 0 (scan1_torn r0 11 r0_ok r0_w (by rw [r0_len]; omega))
theorem r0_turned : pScan ((recB r0).set 0 1) = ([], 0, 150) := by
  have hg : (recB r0)[0]? = some 0 := by
    obtain ⟨t, h, hl⟩ := r0_bytes
    rw [h]
    rfl
  have h := scan1_turned r0 [] 0 1 r0_ok r0_w (by rw [r0_len]; omega) (by omega) (by rw [List.getElem?_eq_getElem (by rw [r0_len]; omega)] at hg; rw [Option.some.inj hg]; omega) bytes_nil
  rw [List.append_nil] at h
  exact pScan_stop _ 150 h
theorem r0_three : pScan [0, 4, 255] = ([], 0, 0) := rfl
/-- EqBytes of the same bytes. -/
theorem eqBytes_same (w : World) (A0 : Option Addr) (c0 : Nat) (l0 : List Int) (A1 : Option Addr) (c1 : Nat) (l1 : List Int) (hr0 : Kd.C (Kd.int .u8) w A0 l0.length l0) (hc0 : l0.length ≤ c0) (hr1 : Kd.C (Kd.int .u8) w A1 l1.length l1) (hc1 : l1.length ≤ c1) (h : l0 = l1) :
    Calls Tryd.prog 12 #[.slice A0 l0.length c0, .slice A1 l1.length c1] w fun e w' => e = .returned (.bool true) ∧ Below w.heap.size w w' :=
  (gimbalref00_EqBytes.calls A0 c0 l0 A1 c1 l1 true w hr0 hc0 hr1 hc1 (by unfold gimbalref00_EqBytes.f; rw [h]; simp)).mono fun e w' h => ⟨h.1, h.2.below⟩
/-- A Scan told. -/
theorem scan_told (l : List Int) (rs : List Rec) (n : Nat) (e : Int) (hp : pScan l = (rs, n, e)) (hb : CrcMath.Bytes l) (hl : l.length < 1099511627776) (w : World) (hG : GItem w) (hH : GRec w) (A : Option Addr) (c : Nat) (hC : Kd.C (Kd.int .u8) w A l.length l) (hc : l.length ≤ c) :
    Calls Tryd.prog 9 #[.slice A l.length c] w fun en w' => ∃ A' c', en = .returned (.tuple #[.slice A' rs.length c', .int .i64 (n : Int), .int .i64 e]) ∧ Kd.R kRec 41 w' w.heap.size (fun _ => True) (.slice A' rs.length c') rs ∧ Below w.heap.size w w' := by
  refine (record_Scan w A c l hG hH hC hc hb hl).mono ?_
  rintro en w' ⟨v, h1, h2, h3⟩
  rw [hp] at h1 h2
  obtain ⟨A', c', rfl⟩ := Kd.R_slice h2
  exact ⟨A', c', h1, h2, h3⟩
theorem view_cell {w : World} {base : Nat} {A : Option Addr} {c : Nat} (hR : Kd.R kRec 41 w base (fun _ => True) (.slice A [r0].length c) [r0]) : ∃ g : Nat, A = some ⟨g, 0, none⟩ ∧ base ≤ g ∧ w.cell? ⟨g, 1, none⟩ = some (.int .i64 300) := by
  obtain ⟨g, c', h1, h2, h3, h4⟩ := Kd.R_form hR (by simp)
  injection h1 with h5 h6 h7
  subst h5
  obtain ⟨_, _, hC⟩ := Kd.R_reads' hR
  obtain ⟨ad, _, _, _, _, e, _, h8, _⟩ := at_T41 hC 0 (by omega) (by simp)
  have e := Option.some.inj e
  subst e
  exact ⟨g, rfl, h2, h8⟩
set_option maxRecDepth 20000 in
set_option maxHeartbeats 8000000 in
theorem works_runs (w : World) (hG : GItem w) (hH : GRec w) : Calls Tryd.prog 13 #[] w fun en w' => en = .returned (.bool true) ∧ Below w.heap.size w w' := by
  have HG := Aside0.mk hG
  have HH := Aside0.mk hH
  have HM := Aside0.mk (record_Bytes w none none 0 0 r0 hG hH (Kd.C_nil _ _) (Nat.le_refl _) (Kd.C_nil _ _) (Nat.le_refl _) r0_w)
  clear hG hH
  have hE : recE r0 = 0 := recE_zero r0 r0_ok
  have hR : recR r0 = recB r0 := by unfold recR; rw [r0_ok]; rfl
  rw [hE, hR] at HM
  clear hE hR
  generalize hb0 : recB r0 = b0 at HM
  have hlen : b0.length = 12 := by rw [← hb0]; exact r0_len
  have HLEN := Aside0.mk hlen
  have HB0 := Aside0.mk hb0
  clear hlen hb0
  go_enter Tryd.func13, Tryd.ntmps13
  go_upto_region 2 with (first | (go_at_call 14; refine HM.out.mono ?_; rintro en w1 ⟨v, rfl, hv, hb⟩; have HO := Aside0.mk hv; have HB := Aside0.mk hb; clear hv hb))
  have HG1 := Aside0.mk (HG.out.below HB.out)
  have HH1 := Aside0.mk (HH.out.below HB.out)
  clear HM
  obtain ⟨g, c, rfl, hg0, hg1, hg2⟩ := Kd.R_form HO.out (by rw [HLEN.out]; omega)
  have HGB := Aside0.mk hg0
  have HGL := Aside0.mk hg1
  clear hg0 hg1 hg2
  -- the cut of eight bytes
  obtain ⟨hc8, hC8, hl8⟩ := bytes_take .i64 (some ⟨g, 0, none⟩) c b0 8 (by rw [HLEN.out]; omega) (Kd.R_reads' HO.out).2.1
  obtain ⟨hc11, hC11, hl11⟩ := bytes_take .i64 (some ⟨g, 0, none⟩) c b0 11 (by rw [HLEN.out]; omega) (Kd.R_reads' HO.out).2.1
  have HC8 := Aside0.mk hC8
  have HC11 := Aside0.mk hC11
  have HL8 := Aside0.mk hl8
  have HL11 := Aside0.mk hl11
  rw [HLEN.out] at hc8 hc11 HO ⊢
  clear hC8 hC11 hl8 hl11
  replace hc8 : ∀ W : World, (Instr.slice 22 (.slice (some ⟨g, 0, none⟩) 12 c) none (some (.int .i64 8)) none).run Tryd.prog W = .ok (.slice (some ⟨g, 0, none⟩) 8 c) W := hc8
  replace hc11 : ∀ W : World, (Instr.slice 22 (.slice (some ⟨g, 0, none⟩) 12 c) none (some (.int .i64 11)) none).run Tryd.prog W = .ok (.slice (some ⟨g, 0, none⟩) 11 c) W := hc11
  have hEQ : ∀ W : World, Below w1.heap.size w1 W → Calls Tryd.prog 12 #[.slice (some ⟨g, 0, none⟩) 8 c, .slice (some ⟨W.heap.size, 0, none⟩) 8 8] (W.alloc (.cells (nums .u8 [0, 4, 255, 251, 1, 172, 2, 1]).toArray 5)) fun e w' => e = .returned (.bool true) ∧ Below (W.alloc (.cells (nums .u8 [0, 4, 255, 251, 1, 172, 2, 1]).toArray 5)).heap.size (W.alloc (.cells (nums .u8 [0, 4, 255, 251, 1, 172, 2, 1]).toArray 5)) w' := by
    intro W hW
    have hW2 := below_alloc hW (.cells (nums .u8 [0, 4, 255, 251, 1, 172, 2, 1]).toArray 5)
    have h1 := Kd.C_below (HC8.out _ (Kd.R_reads' HO.out).2.2) hW2
    have h2 := lit_C .u8 W 5 (0, 0) [0, 4, 255, 251, 1, 172, 2, 1] (by decide)
    have h3 := eqBytes_same _ _ c (b0.take 8) _ 8 [0, 4, 255, 251, 1, 172, 2, 1] h1 (by rw [HL8.out]; have := (Kd.R_reads' HO.out).2.1; omega) h2 (Nat.le_refl _) (by
      obtain ⟨t, ht, _⟩ := r0_bytes
      rw [← HB0.out, ht]
      rfl)
    rw [HL8.out] at h3
    exact h3
  have HEQ := Aside0.mk hEQ
  clear hEQ
  go_upto_region 4 with (first | (go_at_call 12; refine (HEQ.out _ (Below.refl _ _)).mono ?_; rintro en w2 ⟨rfl, hb⟩; have HB2 := Aside0.mk (bnext (Below.refl _ _) _ hb); clear hb))
  clear HEQ HC8 HL8 hc8
  -- the first Scan
  have HC12 := Aside0.mk (Kd.R_reads' HO.out).2
  have HS1 := Aside0.mk (scan_told b0 [r0] 12 0 (by rw [← HB0.out]; exact r0_scan) (by rw [← HB0.out]; exact recB_bytes r0) (by rw [HLEN.out]; omega) w2 (HG1.out.below HB2.out) (HH1.out.below HB2.out) (some ⟨g, 0, none⟩) c (Kd.C_below HC12.out.2 HB2.out) (by rw [HLEN.out]; exact HC12.out.1))
  rw [HLEN.out] at HS1
  go_upto_region 5 with (first | (go_at_call 9; refine HS1.out.mono ?_; rintro en w3 ⟨A1, c1, rfl, hv, hb⟩; have HV := Aside0.mk hv; have HB3 := Aside0.mk (HB2.out.trans (hb.mono HB2.out.size)); clear hv hb))
  clear HS1
  obtain ⟨g1, rfl, hg1, hvc⟩ := view_cell HV.out
  have HVC := Aside0.mk hvc
  have HGE := Aside0.mk (Nat.le_trans HB2.out.size hg1)
  clear hvc hg1 HV HB2
  -- the second
  have HS2 := Aside0.mk (scan_told (b0.take 11) [] 0 0 (by rw [← HB0.out]; exact r0_torn) (fun z hz => recB_bytes r0 z (by rw [HB0.out]; exact List.mem_of_mem_take hz)) (by rw [HL11.out]; omega) w3 (HG1.out.below HB3.out) (HH1.out.below HB3.out) (some ⟨g, 0, none⟩) c (Kd.C_below (HC11.out _ HC12.out.2) HB3.out) (by rw [HL11.out]; have := HC12.out.1; omega))
  rw [HL11.out] at HS2
  go_upto_region 6 with (first | (go_at_call 9; refine HS2.out.mono ?_; rintro en w4 ⟨A2, c2, rfl, _, hb⟩; have HB4 := Aside0.mk (HB3.out.trans (hb.mono HB3.out.size)); have HVC4 := Aside0.mk ((hb.cell (cell_blk HVC.out)).trans HVC.out); clear hb))
  clear HS2 HVC HB3 HC11 HL11 hc11 HC12
  -- the store
  have hO4 := Kd.R_below HO.out HB4.out
  obtain ⟨hcell, hfro⟩ := Kd.R_celln 0 hO4 0 (by omega) (by omega)
  obtain ⟨hO5, hg5⟩ := Kd.R_putg hO4 0 1
  replace hO5 : Kd.R (Kd.int .u8) 5 (w4.setCell ⟨g, 0, none⟩ (.int .u8 1)) w.heap.size (fun _ => True) (.slice (some ⟨g, 0, none⟩) 12 c) (b0.set 0 1) := hO5
  replace hg5 : w4.grownBy (w4.setCell ⟨g, 0, none⟩ (.int .u8 1)) (some g) := hg5
  have hB5 : Below w.heap.size w (w4.setCell ⟨g, 0, none⟩ (.int .u8 1)) := below_grownG (HB.out.trans (HB4.out.mono HB.out.size)) hg5 HGB.out
  have HO5 := Aside0.mk hO5
  have HB5 := Aside0.mk hB5
  clear hO4 hO5 hg5 hB5 HO HB4 HB
  replace hcell : w4.cell? ⟨g, 0, none⟩ = some (.int .u8 (rd b0 0)) := hcell
  replace hfro : w4.frozen? ⟨g, 0, none⟩ = false := hfro
  have HVC5 := Aside0.mk ((World.cell?_setCell_far w4 ⟨g, 0, none⟩ ⟨g1, 1, none⟩ (.int .u8 1) (by have := HGL.out; have := HGE.out; show g ≠ g1; omega)).trans HVC4.out)
  go_upto_region 7 with fail
  clear hcell hfro HVC4 HGE HGL HG1 HH1
  generalize w4.setCell ⟨g, 0, none⟩ (.int .u8 1) = w5 at *
  -- the third
  have hl5 : (b0.set 0 1).length = 12 := by rw [List.length_set, HLEN.out]
  have hC5 := (Kd.R_reads' HO5.out).2
  have HS3 := Aside0.mk (scan_told (b0.set 0 1) [] 0 150 (by rw [← HB0.out]; exact r0_turned) (by rw [← HB0.out]; exact bytes_set (recB_bytes r0) 0 1 (by omega)) (by rw [hl5]; omega) w5 (HG.out.below HB5.out) (HH.out.below HB5.out) (some ⟨g, 0, none⟩) c hC5.2 (by rw [hl5]; exact hC5.1))
  rw [hl5] at HS3
  clear hl5 hC5
  go_upto_region 8 with (first | (go_at_call 9; refine HS3.out.mono ?_; rintro en w6 ⟨A3, c3, rfl, _, hb⟩; have HB6 := Aside0.mk (HB5.out.trans (hb.mono HB5.out.size)); have HVC6 := Aside0.mk ((hb.cell (cell_blk HVC5.out)).trans HVC5.out); clear hb))
  clear HS3 HVC5 HB5 HO5
  -- the fourth
  have hB7 := below_alloc (Below.refl w6.heap.size w6) (.cells (nums .u8 [0, 4, 255]).toArray 5)
  have HB7 := Aside0.mk (HB6.out.trans (hB7.mono HB6.out.size))
  have HVC7 := Aside0.mk ((hB7.cell (cell_blk HVC6.out)).trans HVC6.out)
  have HS4 := Aside0.mk (scan_told [0, 4, 255] [] 0 0 r0_three (by intro z hz; simp at hz; omega) (by decide) (w6.alloc (.cells (nums .u8 [0, 4, 255]).toArray 5)) (HG.out.below HB7.out) (HH.out.below HB7.out) (some ⟨w6.heap.size, 0, none⟩) 3 (lit_C .u8 w6 5 (0, 0) [0, 4, 255] (by decide)) (Nat.le_refl _))
  clear hB7 HVC6 HB6
  go_upto_region 9 with (first | (go_at_call 9; refine HS4.out.mono ?_; rintro en w8 ⟨A4, c4, rfl, _, hb⟩; have HB8 := Aside0.mk (HB7.out.trans (hb.mono HB7.out.size)); have hvc8 := (hb.cell (cell_blk HVC7.out)).trans HVC7.out; clear hb))
  clear HS4 HVC7 HB7 HG HH
  go_wp2_with fail
  go_ret
  exact ⟨rfl, HB8.out⟩
end Go.Proofs.YtmeblifbkhpdnaaDoor.K
/- The law RecordAgain, walked. -/
namespace Go.Proofs.YtmeblifbkhpdnaaDoor.K
set_option linter.unusedVariables false
set_option linter.unusedSimpArgs false
open Go.RowKit Go.Proofs.YtmeblifbkhpdnaaDoorW.PrintWords Go.Proofs.YtmeblifbkhpdnaaDoorW.PrintLast Go.Proofs.YtmeblifbkhpdnaaDoorW.PrintMore
attribute [local go_sem] max2_int min2_int
theorem rd_R_at (l : List Rec) (k : Nat) (h : k < l.length) : rd_T41 l (k : Int) = l[k] := by
  simp [rd_T41, List.getD_eq_getElem?_getD, List.getElem?_eq_getElem h]
theorem rec_at {w wr : World} {A : Option Addr} {l : List Rec} (h : kRec.C w A l.length l) (hb : Below w.heap.size w wr) (k : Nat) (hk : k < l.length) :
    ∃ ad A6 c6 A7 c7, A = some ad ∧ (wr.cell? (ad.add (k * 12)) = some (.int .i64 l[k].f0) ∧ wr.cell? ⟨(ad.add (k * 12)).block, (ad.add (k * 12)).off + 1, none⟩ = some (.int .i64 l[k].f1) ∧ wr.cell? ⟨(ad.add (k * 12)).block, (ad.add (k * 12)).off + 2, none⟩ = some (.int .i64 l[k].f2) ∧ wr.cell? ⟨(ad.add (k * 12)).block, (ad.add (k * 12)).off + 3, none⟩ = some (.int .i64 l[k].f3) ∧ wr.cell? ⟨(ad.add (k * 12)).block, (ad.add (k * 12)).off + 4, none⟩ = some (.int .i64 l[k].f4.f0) ∧ wr.cell? ⟨(ad.add (k * 12)).block, (ad.add (k * 12)).off + 5, none⟩ = some (.int .i64 l[k].f4.f1) ∧ wr.cell? ⟨(ad.add (k * 12)).block, (ad.add (k * 12)).off + 6, none⟩ = some (.int .i64 l[k].f4.f2.f0) ∧ wr.cell? ⟨(ad.add (k * 12)).block, (ad.add (k * 12)).off + 7, none⟩ = some (.string l[k].f4.f2.f1) ∧ wr.cell? ⟨(ad.add (k * 12)).block, (ad.add (k * 12)).off + 8, none⟩ = some (.int .i64 l[k].f4.f2.f2) ∧ wr.cell? ⟨(ad.add (k * 12)).block, (ad.add (k * 12)).off + 9, none⟩ = some (.int .i64 l[k].f4.f2.f3) ∧ wr.cell? ⟨(ad.add (k * 12)).block, (ad.add (k * 12)).off + 10, none⟩ = some (.slice A6 l[k].f4.f2.f4.length c6) ∧ wr.cell? ⟨(ad.add (k * 12)).block, (ad.add (k * 12)).off + 11, none⟩ = some (.slice A7 l[k].f5.length c7)) ∧ l[k].f4.f2.f4.length ≤ c6 ∧ kLine.C wr A6 l[k].f4.f2.f4.length l[k].f4.f2.f4 ∧ l[k].f5.length ≤ c7 ∧ kEnt.C wr A7 l[k].f5.length l[k].f5 := by
  obtain ⟨ad, A6, c6, A7, c7, e1, h0, h1, h2, h3, h4, h5, h6, h7, h8, h9, h10, h11, q1, q2, q3, q4⟩ := at_T41 h (k : Int) (by omega) (by omega)
  rw [rd_R_at l k hk] at h0 h1 h2 h3 h4 h5 h6 h7 h8 h9 h10 h11 q1 q2 q3 q4
  rw [Int.toNat_natCast] at h0 h1 h2 h3 h4 h5 h6 h7 h8 h9 h10 h11
  exact ⟨ad, A6, c6, A7, c7, e1, ⟨(hb.cell (cell_blk h0)).trans h0, (hb.cell (cell_blk h1)).trans h1, (hb.cell (cell_blk h2)).trans h2, (hb.cell (cell_blk h3)).trans h3, (hb.cell (cell_blk h4)).trans h4, (hb.cell (cell_blk h5)).trans h5, (hb.cell (cell_blk h6)).trans h6, (hb.cell (cell_blk h7)).trans h7, (hb.cell (cell_blk h8)).trans h8, (hb.cell (cell_blk h9)).trans h9, (hb.cell (cell_blk h10)).trans h10, (hb.cell (cell_blk h11)).trans h11⟩, q1, Kd.C_below q2 hb, q3, Kd.C_below q4 hb⟩
theorem takeJ_snoc (rs : List Rec) (k : Nat) (h : k < rs.length) : jB (rs.take (k + 1)) = jB (rs.take k) ++ recB rs[k] := by
  rw [List.take_succ_eq_append_getElem h, jB_append]
  simp [jB]
theorem takeJ_le (rs : List Rec) (k : Nat) : (jB (rs.take k)).length ≤ (jB rs).length := by
  conv => rhs; rw [← List.take_append_drop k rs]
  rw [jB_append, List.length_append]
  omega
/-- The first so many. -/
theorem cut_min (l : List Int) (n : Int) (h0 : 0 ≤ n) : min (l.length : Int) n = ((min l.length n.toNat : Nat) : Int) := by omega
set_option maxRecDepth 20000 in
set_option maxHeartbeats 8000000 in
theorem again_runs (w : World) (A : Option Addr) (c : Nat) (l : List Int) (hG : GItem w) (hH : GRec w) (hC : Kd.C (Kd.int .u8) w A l.length l) (hc : l.length ≤ c) (hb : CrcMath.Bytes l) :
    Calls Tryd.prog 4 #[.slice A l.length c] w fun en w' => en = .returned (.bool true) ∧ Below w.heap.size w w' := by
  have HG := Aside0.mk hG
  have HH := Aside0.mk hH
  obtain ⟨hcut, hC1, hl1⟩ := bytes_take .i64 A c l (min l.length 6000) (Nat.min_le_left _ _) hc
  have hm : min (l.length : Int) 6000 = ((min l.length 6000 : Nat) : Int) := cut_min l 6000 (by omega)
  rw [← hm] at hcut
  obtain ⟨l1, hl⟩ : ∃ l1, l1 = l.take (min l.length 6000) := ⟨_, rfl⟩
  have hb1 : CrcMath.Bytes l1 := by rw [hl]; exact fun z hz => hb z (List.mem_of_mem_take hz)
  rw [← hl] at hC1 hl1
  have hc1 : l1.length ≤ c := by omega
  have h6 : l1.length ≤ 6000 := by omega
  have HC1 := Aside0.mk (hC1 w hC)
  rw [← hl1] at hcut
  have HCC := Aside0.mk hc1
  have H6 := Aside0.mk h6
  have HS := Aside0.mk (record_Scan w A c l1 hG hH HC1.out hc1 hb1 (by omega))
  obtain ⟨p1, p2, p3, p4⟩ := pScan_dec l1 hb1
  generalize pScan l1 = p at HS p1 p2 p3 p4
  obtain ⟨rs, n, e⟩ := p
  simp only at HS p1 p2 p3 p4
  have HP1 := Aside0.mk p1
  have HP2 := Aside0.mk p2
  have HP3 := Aside0.mk p3
  have HP4 := Aside0.mk p4
  clear p1 p2 p3 p4 hb hb1 hc1 h6 hC hC1 hG hH hl hl1 hm hc
  go_enter Tryd.func4, Tryd.ntmps4
  go_upto_region 2 with fail
  clear hcut
  go_upto_region 3 with (first | (go_at_call 9; refine HS.out.mono ?_; rintro en w2 ⟨v, rfl, hv, hb⟩; have HV := Aside0.mk hv; have HB := Aside0.mk hb; clear hv hb))
  clear HS
  obtain ⟨A1, c1, hv, hcr, hR1⟩ := R_C HV.out
  subst hv
  have HR1 := Aside0.mk hR1
  have HLM := Aside0.mk hR1.2.1
  clear HV hR1 hcr
  go_wp2_with fail
  go_loopw [6, 7] (fun s6 s7 wr => ∃ k : Nat, k ≤ rs.length ∧ s7 = .int .i64 (k : Int) ∧ Aside0 (Kd.R (Kd.int .u8) 5 wr w2.heap.size (fun _ => True) s6 (jB (rs.take k))) ∧ Aside0 (Below w2.heap.size w2 wr)) (fun _ s7 _ => rs.length - (intOf s7).toNat)
  case atStart => exact ⟨0, Nat.zero_le _, rfl, ⟨Kd.R_nil _ _ _ _ _⟩, ⟨Below.refl _ _⟩⟩
  case round =>
    obtain ⟨k, hk, rfl, HO, HW⟩ := hrel
    by_cases hlt : k < rs.length
    · have hbt : decide ((k : Int) < (rs.length : Int)) = true := by simp; omega
      obtain ⟨ad, A6, c6, A7, c7, e1, ⟨h0, h1, h2, h3, h4, h5, h6, h7, h8, h9, h10, h11⟩, q1, q2, q3, q4⟩ := rec_at HR1.out HW.out k hlt
      cases e1
      have HT := Aside0.mk (takeJ_snoc rs k hlt)
      have hx := HP1.out rs[k] (List.getElem_mem hlt)
      have hle := takeJ_le rs k
      have hle2 := takeJ_le rs (k + 1)
      rw [HT.out] at hle2
      have hn := congrArg List.length HP2.out
      rw [List.length_take] at hn
      have HLE := Aside0.mk (show (jB (rs.take k)).length + (recB rs[k]).length ≤ 6000 by rw [List.length_append] at hle2; have := H6.out; omega)
      clear hle hle2 hn
      have hBB := HB.out.trans (HW.out.mono HB.out.size)
      generalize rs[k] = x at *
      have HM := Aside0.mk (record_Bytes wr A6 A7 c6 c7 x (HG.out.below hBB) (HH.out.below hBB) q2 q1 q4 q3 hx.2)
      have hR : recR x = recB x := by unfold recR; rw [hx.1]; rfl
      rw [recE_zero x hx.1, hR] at HM
      clear hR hx hBB q1 q2 q3 q4
      obtain ⟨row, hrow⟩ : ∃ row, row = jB (rs.take k) := ⟨_, rfl⟩
      rw [← hrow] at HO HLE HT
      obtain ⟨xb, hxb⟩ : ∃ xb, xb = recB x := ⟨_, rfl⟩
      rw [← hxb] at HLE HT HM
      clear hrow hxb
      go_wp2_with (first
        | (go_at_call 14; refine HM.out.mono ?_; rintro en w3 ⟨v, rfl, hv, hb⟩; obtain ⟨A3, c3, e3, hc3, hr3⟩ := R_C hv; subst e3; have HR3 := Aside0.mk hr3; have HO3 := Aside0.mk (Kd.R_below HO.out hb); have HW3 := Aside0.mk (HW.out.trans (hb.mono HW.out.size)); clear hv hb hr3)
        | ((with_reducible refine gate_builtin (b := .append) (xs := #[.tmp 37, .tmp 38]) rfl ?_); at_builtin; refine Kd.R_append_rows (Kd.int .u8) (w0 := w2) w2.heap.size rfl (.tmp 37) (.tmp 38) 22 5 (.int .u8 0) 1 rfl Tryd.underlying22 infou8 rfl (by decide) (by omega) (_) (row) (xb) _ _ _ (fun _ => True) (fun _ => False) rfl rfl ?aO ?aR (fun _ _ h => h) (fun _ h => h.elim) ?aF ?aB ?aS ?aL ?_; (case aR => repeat (first | exact HR3.out | (with_reducible refine Kd.C_alloc ?_ _) | (with_reducible refine Kd.C_drewN ?_ _) | (with_reducible refine Kd.C_drew ?_))); (case aB => exact (by repeat (first | (with_reducible first | exact HW3.out | apply below_alloc | apply pw_below_drewN | apply below_drew1) | exact HW3.out))); (case aF => exact (fun _ _ => trivial)); (case aO => exact (by (with_reducible repeat (first | apply Kd.R_alloc | apply Kd.R_drewN | apply Kd.R_drew)); exact HO3.out)); (case aS => exact (below_size (by repeat (first | (with_reducible first | exact HW3.out | apply below_alloc | apply pw_below_drewN | apply below_drew1) | exact HW3.out)))); (case aL => (have h := HLE.out; omega)); intro v7 w7 hv hw hg7 hat7; clear hg7 hat7))
      have HO4 := Aside0.mk hv
      have HW4 := Aside0.mk hw
      clear hv hw
      have hwk := wrap_next rs.length k hlt HLM.out
      go_roundw
      case rel => exact ⟨k + 1, by omega, by rw [hwk], ⟨by rw [HT.out]; exact HO4.out⟩, HW4⟩
      case measure => exact meas_step rs.length k hlt hwk
    · have hbt : decide ((k : Int) < (rs.length : Int)) = false := by simp; omega
      obtain rfl : k = rs.length := by omega
      rw [List.take_length] at HO
      obtain ⟨A6, c6, hv, hc6, hr6⟩ := R_C HO.out
      subst hv
      obtain ⟨hcn, hCn, hln⟩ := bytes_take .i64 A c l1 n HP3.out HCC.out
      have hBB := HB.out.trans (HW.out.mono HB.out.size)
      have hEQ := eqBytes_same wr A6 c6 (jB rs) A c (l1.take n) hr6 hc6 (Kd.C_below (hCn w HC1.out) hBB) (by rw [hln]; have := HP3.out; have := HCC.out; omega) HP2.out
      rw [hln] at hEQ
      have HEQ := Aside0.mk hEQ
      have HBB := Aside0.mk hBB
      have hd0 : decide (0 ≤ (n : Int)) = true := decide_eq_true (by omega)
      have hd1 : decide ((n : Int) ≤ (l1.length : Int)) = true := decide_eq_true (by have := HP3.out; omega)
      have hd3 : n ≤ l1.length := HP3.out
      clear hEQ hBB hr6 hc6 hCn hln HO HW HB HR1 HP1 HP2 HP3 HC1 HCC H6 HLM hk hlt
      have HWK := Aside0.mk (fun W (hW : Below w.heap.size w W) => works_runs W (HG.out.below hW) (HH.out.below hW))
      clear HG HH
      rcases HP4.out with rfl | ⟨rfl, h5⟩
      · clear HP4
        go_wp2_with (first
          | (go_at_call 12; refine HEQ.out.mono ?_; rintro en w3 ⟨rfl, hb⟩; have HB3 := Aside0.mk (HBB.out.trans (hb.mono HBB.out.size)); clear hb)
          | (go_at_call 13; refine (HWK.out _ HB3.out).mono ?_; rintro en w4 ⟨rfl, hb⟩; have HB4 := Aside0.mk (HB3.out.trans (hb.mono HB3.out.size)); clear hb))
        go_ret
        exact ⟨rfl, HB4.out⟩
      · clear HP4
        have hd2 : decide ((n : Int) < (l1.length : Int)) = true := decide_eq_true (by omega)
        go_wp2_with (first
          | (go_at_call 12; refine HEQ.out.mono ?_; rintro en w3 ⟨rfl, hb⟩; have HB3 := Aside0.mk (HBB.out.trans (hb.mono HBB.out.size)); clear hb)
          | (go_at_call 13; refine (HWK.out _ HB3.out).mono ?_; rintro en w4 ⟨rfl, hb⟩; have HB4 := Aside0.mk (HB3.out.trans (hb.mono HB3.out.size)); clear hb))
        go_ret
        exact ⟨rfl, HB4.out⟩
end Go.Proofs.YtmeblifbkhpdnaaDoor.K
/- The laws' helpers: Bring; made: a record that may be. -/
namespace Go.Proofs.YtmeblifbkhpdnaaDoor.K
set_option linter.unusedVariables false
set_option linter.unusedSimpArgs false
open Go.RowKit Go.Proofs.YtmeblifbkhpdnaaDoorW.PrintWords Go.Proofs.YtmeblifbkhpdnaaDoorW.PrintLast Go.Proofs.YtmeblifbkhpdnaaDoorW.PrintMore
attribute [local go_sem] max2_int min2_int
/-- What Bring says. -/
def brg (a n : Int) : Int := if Int.tmod a n < 0 then Int.tmod a n + n else Int.tmod a n
theorem brg_range (a n : Int) (hn : 0 < n) : 0 ≤ brg a n ∧ brg a n < n := by
  have h1 := Int.tmod_lt_of_pos a hn
  have h2 : -n < Int.tmod a n := by
    have h3 := Int.tmod_lt_of_pos (-a) hn
    rw [Int.neg_tmod] at h3
    omega
  unfold brg
  split <;> omega
set_option maxHeartbeats 800000 in
theorem bring (w : World) (a n : Int) (hn : 0 < n) (hm : n ≤ 9007199254740992) : Calls Tryd.prog 23 #[.int .i64 a, .int .i64 n] w fun e w' => e = .returned (.int .i64 (brg a n)) ∧ w = w' := by
  have hr := brg_range a n hn
  have c3 : ¬ n = 0 := by omega
  have c3b0 : (n == 0) = false := beq_eq_false_iff_ne.mpr c3
  have c3b1 : (n != 0) = true := bne_iff_ne.mpr c3
  unfold brg at hr ⊢
  generalize hz : Int.tmod a n = z at *
  by_cases c4 : z < 0
  · rw [if_pos c4] at hr ⊢
    have c4b0 : decide (z < 0) = true := decide_eq_true c4
    have hw : wrap64 (z + n) = z + n := wrap64_in (by omega) (by omega)
    clear c4 hr hn hm
    go_enter Tryd.func23, Tryd.ntmps23
    go_wp2
    go_ret
    exact ⟨by simp [hw], rfl⟩
  · rw [if_neg c4]
    have c4b0 : decide (z < 0) = false := decide_eq_false c4
    clear c4 hr hn hm
    go_enter Tryd.func23, Tryd.ntmps23
    go_wp2
    go_ret
    exact ⟨rfl, rfl⟩
/-! ### what is made may be -/
def mdE (c n u : Int) : Ent := ⟨c, n, ⟨6, ⟨#[]⟩, u, 0, []⟩⟩
theorem mdE_ok (c n u : Int) (hc : 0 ≤ c ∧ c < 8) (hn : 1 ≤ n ∧ n ≤ 2147483647) (hu : 1 ≤ u ∧ u ≤ 2147483647) : entOk (mdE c n u) = true := by
  have h1 : iHas 6 1 = false := by decide
  have h2 : iHas 6 2 = true := by decide
  have h4 : iHas 6 4 = false := by decide
  have h16 : iHas 6 16 = false := by decide
  unfold mdE entOk opOk may qty within
  simp only [h1, h2, h4, h16]
  simp
  exact ⟨hc, hn, hu⟩
theorem numOk_in (own n what : Int) (h : 0 ≤ n ∧ n ≤ 9007199254740991) (ho : (bits .and .i64 own what != 0) = true) : numOk own n what = true := by
  unfold numOk
  rw [ho]
  by_cases h0 : n = 0
  · subst h0; rfl
  · have h1 : decide (0 < n) = true := decide_eq_true (by omega)
    have h2 : decide (n ≤ 9007199254740991) = true := decide_eq_true h.2
    rw [h1, h2]
    simp
theorem rec1_ok (a b : Int) (ha : 0 ≤ a ∧ a ≤ 9007199254740991) (hb : 0 ≤ b ∧ b ≤ 9007199254740991) : recOk ⟨1, a, b, 0, zEnt, []⟩ = true := by
  have h : sameEnt zEnt zEnt = true := (sameEnt_iff _ _).2 rfl
  have h1 := numOk_in (rHas 1) a (nWhat 1) ha (by decide)
  have h2 := numOk_in (rHas 1) b (nWhat 2) hb (by decide)
  have h3 : (bits .and .i64 (rHas 1) 4 != 0) = false := by decide
  unfold recOk okE
  simp only [h3, Bool.false_eq_true, if_false, h]
  have h4 : okN (rHas 1) ⟨1, a, b, 0, zEnt, []⟩ 3 = true := by
    show (((rHas 1 != 0) && numOk (rHas 1) 0 (nWhat 0)) && numOk (rHas 1) a (nWhat 1) && numOk (rHas 1) b (nWhat 2)) = true
    rw [h1, h2]
    decide
  rw [h4]
  simp
theorem rec2_ok (c : Int) (e : Ent) (hc : 1 ≤ c ∧ c ≤ 9007199254740991) (he : entOk e = true) : recOk ⟨2, 0, 0, c, e, []⟩ = true := by
  have h1 := numOk_in (rHas 2) c (nWhat 0) (by omega) (by decide)
  have h3 : (bits .and .i64 (rHas 2) 4 != 0) = true := by decide
  have h5 : decide (0 < c) = true := decide_eq_true (by omega)
  unfold recOk okE
  simp only [h3, if_true, he, h5]
  have h4 : okN (rHas 2) ⟨2, 0, 0, c, e, []⟩ 3 = true := by
    show (((rHas 2 != 0) && numOk (rHas 2) c (nWhat 0)) && numOk (rHas 2) 0 (nWhat 1) && numOk (rHas 2) 0 (nWhat 2)) = true
    rw [h1]
    decide
  rw [h4]
  simp
theorem rec3_ok (a b c : Int) (es : List Ent) (ha : 0 ≤ a ∧ a ≤ 9007199254740991) (hb : 0 ≤ b ∧ b ≤ 9007199254740991) (hc : 0 ≤ c ∧ c ≤ 9007199254740991) (he : es.all entOk = true) (hl : es.length ≤ 24) : recOk ⟨3, a, b, c, zEnt, es⟩ = true := by
  have h : sameEnt zEnt zEnt = true := (sameEnt_iff _ _).2 rfl
  have h1 := numOk_in (rHas 3) a (nWhat 1) ha (by decide)
  have h2 := numOk_in (rHas 3) b (nWhat 2) hb (by decide)
  have h0 := numOk_in (rHas 3) c (nWhat 0) hc (by decide)
  have h3 : (bits .and .i64 (rHas 3) 4 != 0) = false := by decide
  have h8 : (bits .and .i64 (rHas 3) 8 == 0) = false := by decide
  have h6 : decide (es.length ≤ 24) = true := decide_eq_true hl
  unfold recOk okE
  simp only [h3, h8, Bool.false_eq_true, if_false, h, he, h6]
  have h4 : okN (rHas 3) ⟨3, a, b, c, zEnt, es⟩ 3 = true := by
    show (((rHas 3 != 0) && numOk (rHas 3) c (nWhat 0)) && numOk (rHas 3) a (nWhat 1) && numOk (rHas 3) b (nWhat 2)) = true
    rw [h1, h2, h0]
    decide
  rw [h4]
  simp
section
variable {W : World} {b : Nat}
/-- A whole record is written into a box. -/
theorem put12_to {y0 y1 y2 y3 y4 y5 y6 y7 y8 y9 y10 y11 v0 v1 v2 v3 v4 v5 v6 v7 v8 v9 v10 v11 : Value} {t : TypeId} (h : W.heap[b]? = some (.cells #[y0, y1, y2, y3, y4, y5, y6, y7, y8, y9, y10, y11] t (0, 0))) : (put12 W b v0 v1 v2 v3 v4 v5 v6 v7 v8 v9 v10 v11).heap[b]? = some (.cells #[v0, v1, v2, v3, v4, v5, v6, v7, v8, v9, v10, v11] t (0, 0)) := by
  have h0 := blk_put h 0 v0 (cs' := #[v0, y1, y2, y3, y4, y5, y6, y7, y8, y9, y10, y11]) rfl
  have h1 := blk_put h0 1 v1 (cs' := #[v0, v1, y2, y3, y4, y5, y6, y7, y8, y9, y10, y11]) rfl
  have h2 := blk_put h1 2 v2 (cs' := #[v0, v1, v2, y3, y4, y5, y6, y7, y8, y9, y10, y11]) rfl
  have h3 := blk_put h2 3 v3 (cs' := #[v0, v1, v2, v3, y4, y5, y6, y7, y8, y9, y10, y11]) rfl
  have h4 := blk_put h3 4 v4 (cs' := #[v0, v1, v2, v3, v4, y5, y6, y7, y8, y9, y10, y11]) rfl
  have h5 := blk_put h4 5 v5 (cs' := #[v0, v1, v2, v3, v4, v5, y6, y7, y8, y9, y10, y11]) rfl
  have h6 := blk_put h5 6 v6 (cs' := #[v0, v1, v2, v3, v4, v5, v6, y7, y8, y9, y10, y11]) rfl
  have h7 := blk_put h6 7 v7 (cs' := #[v0, v1, v2, v3, v4, v5, v6, v7, y8, y9, y10, y11]) rfl
  have h8 := blk_put h7 8 v8 (cs' := #[v0, v1, v2, v3, v4, v5, v6, v7, v8, y9, y10, y11]) rfl
  have h9 := blk_put h8 9 v9 (cs' := #[v0, v1, v2, v3, v4, v5, v6, v7, v8, v9, y10, y11]) rfl
  have h10 := blk_put h9 10 v10 (cs' := #[v0, v1, v2, v3, v4, v5, v6, v7, v8, v9, v10, y11]) rfl
  exact blk_put h10 11 v11 (cs' := #[v0, v1, v2, v3, v4, v5, v6, v7, v8, v9, v10, v11]) rfl
end
theorem ret_made {W : World} {b : Nat} {r : Rec} {v u : Value} {tmps : Array Value} (h : W.heap[b]? = some (.cells (recC r v u) 41 (0, 0))) (h2 : tmps.getD 2 undef = .pointer (some ⟨b, 0, none⟩)) :
    (results Tryd.f52 tmps).run Tryd.prog W = .ok (recV r v u) W :=
  results_cell_row rfl tmps W b 41 _ (0, 0) _ h2 h Tryd.underlying41 rfl (by kernel_rfl)
/-- While a base record is made. -/
structure Lp (w : World) (h x : Nat) (k v l o n c1 u1 num : Int) (r : Rec) (vr : Value) (W : World) : Prop where
  low : Below w.heap.size w W
  he : W.heap[h]? = some (.cells #[.int .i64 c1, .int .i64 num, .int .i64 6, .string ⟨#[]⟩, .int .i64 u1, .int .i64 0, .slice none 0 0] 38 (0, 0))
  hs : W.heap[w.heap.size]? = some (.cells #[.int .i64 k, .int .i64 v, .int .i64 l, .int .i64 o, .int .i64 n] 84 (0, 0))
  hq : W.heap[w.heap.size + 1]? = some (.cells (recC ⟨0, 0, 0, 0, zEnt, []⟩ (.slice none 0 0) (.slice none 0 0)) 41 (0, 0))
  hx : W.heap[x]? = some (.cells (recC r (.slice none 0 0) vr) 41 (0, 0))
  row : Kd.R kEnt 38 W w.heap.size (fun j => j ≠ h ∧ j ≠ x ∧ j ≠ w.heap.size ∧ j ≠ w.heap.size + 1) vr r.f5
  lh : w.heap.size + 3 ≤ h
  lx : h < x
theorem Lp.num {w W : World} {h x : Nat} {k v l o n c1 u1 num : Int} {r : Rec} {vr : Value} (H : Lp w h x k v l o n c1 u1 num r vr W) (z : Int) : Lp w h x k v l o n c1 u1 z r vr (W.setCell ⟨h, 1, none⟩ (.int .i64 z)) := by
  have hg : W.grownBy (W.setCell ⟨h, 1, none⟩ (.int .i64 z)) (some h) := grown_set (World.grownBy.refl W _)
  have h1 := H.lh
  have h2 := H.lx
  exact ⟨below_grownG H.low hg (by omega), blk_put H.he 1 _ rfl, blk_far H.hs (by show w.heap.size ≠ h; omega) _, blk_far H.hq (by show w.heap.size + 1 ≠ h; omega) _, blk_far H.hx (by show x ≠ h; omega) _, Kd.R_grown H.row hg (fun j hj e => hj.1 (Option.some.inj e)), H.lh, H.lx⟩
theorem Lp.app {w W w7 : World} {h x : Nat} {k v l o n c1 u1 num : Int} {r : Rec} {vr v7 : Value} {e : Ent} (H : Lp w h x k v l o n c1 u1 num r vr W) (hB : Below w.heap.size w w7) (hR : Kd.R kEnt 38 w7 w.heap.size (fun j => j ≠ h ∧ j ≠ x ∧ j ≠ w.heap.size ∧ j ≠ w.heap.size + 1) v7 (r.f5 ++ [e])) (hg : W.grownBy w7 vr.ownBlock) :
    Lp w h x k v l o n c1 u1 num { r with f5 := r.f5 ++ [e] } v7 (w7.setCell ⟨x, 11, none⟩ v7) := by
  have hg2 : w7.grownBy (w7.setCell ⟨x, 11, none⟩ v7) (some x) := grown_set (World.grownBy.refl w7 _)
  have h1 := H.lh
  have h2 := H.lx
  have n1 : some h ≠ vr.ownBlock := fun e => (H.row.1 h e.symm).1 rfl
  have n2 : some x ≠ vr.ownBlock := fun e => (H.row.1 x e.symm).2.1 rfl
  have n3 : some w.heap.size ≠ vr.ownBlock := fun e => (H.row.1 _ e.symm).2.2.1 rfl
  have n4 : some (w.heap.size + 1) ≠ vr.ownBlock := fun e => (H.row.1 _ e.symm).2.2.2 rfl
  refine ⟨below_grownG hB hg2 (by omega), blk_far (blk_grown H.he hg n1) (by show h ≠ x; omega) _, blk_far (blk_grown H.hs hg n3) (by show w.heap.size ≠ x; omega) _, blk_far (blk_grown H.hq hg n4) (by show w.heap.size + 1 ≠ x; omega) _, ?_, Kd.R_grown hR hg2 (fun j hj e => hj.2.1 (Option.some.inj e)), H.lh, H.lx⟩
  exact blk_put (blk_grown H.hx hg n2) 11 v7 rfl
theorem Lp.cell11 {w W w7 : World} {h x : Nat} {k v l o n c1 u1 num : Int} {r : Rec} {vr : Value} (H : Lp w h x k v l o n c1 u1 num r vr W) (hg : W.grownBy w7 vr.ownBlock) : w7.cell? ⟨x, 11, none⟩ = some vr ∧ w7.frozen? ⟨x, 11, none⟩ = false := by
  have n2 : some x ≠ vr.ownBlock := fun e => (H.row.1 x e.symm).2.1 rfl
  have hb := blk_grown H.hx hg n2
  exact ⟨blk_cell hb 11, blk_frozen hb 11⟩
/-- While an entry is made: a Seed's box, the operation's box. -/
abbrev MdS (w : World) (b g : Nat) (k v l o n u : Int) (W : World) : Prop :=
  W.cell? ⟨b, 0, none⟩ = some (.int .i64 k) ∧ W.cell? ⟨b, 1, none⟩ = some (.int .i64 v) ∧ W.cell? ⟨b, 2, none⟩ = some (.int .i64 l) ∧ W.cell? ⟨b, 3, none⟩ = some (.int .i64 o) ∧ W.cell? ⟨b, 4, none⟩ = some (.int .i64 n) ∧
  W.cell? ⟨g, 0, none⟩ = some (.int .i64 6) ∧ W.cell? ⟨g, 1, none⟩ = some (.string ⟨#[]⟩) ∧ W.cell? ⟨g, 2, none⟩ = some (.int .i64 u) ∧ W.cell? ⟨g, 3, none⟩ = some (.int .i64 0) ∧ W.cell? ⟨g, 4, none⟩ = some (.slice none 0 0) ∧ Aside0 (Below w.heap.size w W)
theorem MdS.next {w W W' : World} {b g : Nat} {k v l o n u : Int} (h : MdS w b g k v l o n u W) (hb : Below W.heap.size W W') : MdS w b g k v l o n u W' := by
  obtain ⟨h0, h1, h2, h3, h4, h5, h6, h7, h8, h9, h10⟩ := h
  have c : ∀ {p : Addr} {x : Value}, W.cell? p = some x → W'.cell? p = some x := fun h => (hb.cell (cell_blk h)).trans h
  exact ⟨c h0, c h1, c h2, c h3, c h4, c h5, c h6, c h7, c h8, c h9, ⟨h10.out.trans (hb.mono h10.out.size)⟩⟩
theorem MdS.alloc {w W : World} {b g : Nat} {k v l o n u : Int} (h : MdS w b g k v l o n u W) (x : Obj) : MdS w b g k v l o n u (W.alloc x) := h.next (below_alloc (Below.refl _ _) x)
theorem MdS.drew {w W : World} {b g : Nat} {k v l o n u : Int} (h : MdS w b g k v l o n u W) : MdS w b g k v l o n u W.drew := h.next (below_drew (Below.refl _ _))
set_option maxRecDepth 20000 in
set_option maxHeartbeats 8000000 in
theorem made_runs (w : World) (k v l o n : Int) :
    Calls Tryd.prog 52 #[.agg #[.int .i64 k, .int .i64 v, .int .i64 l, .int .i64 o, .int .i64 n]] w fun en w' => ∃ r v u, en = .returned (recV r v u) ∧ recOk r = true ∧ RecW r ∧ Kd.R kLine 118 w' w.heap.size (fun _ => True) v r.f4.f2.f4 ∧ Kd.R kEnt 38 w' w.heap.size (fun _ => True) u r.f5 ∧ Below w.heap.size w w' := by
  have hq := brg_range n 2147483647 (by omega)
  have hw1 : wrap64 (1 + brg n 2147483647) = 1 + brg n 2147483647 := wrap64_in (by omega) (by omega)
  go_enter Tryd.func52, Tryd.ntmps52
  go_upto_region 2 with (first | (go_at_call 23; refine (bring _ _ _ (by omega) (by omega)).mono ?_; rintro en w1 ⟨rfl, rfl⟩))
  have hB1 := below_alloc (below_alloc (below_alloc (Below.refl w.heap.size w) (.cells #[.int .i64 k, .int .i64 v, .int .i64 l, .int .i64 o, .int .i64 n] 84)) (.cells #[.int .i64 0, .int .i64 0, .int .i64 0, .int .i64 0, .int .i64 0, .int .i64 0, .int .i64 0, .string ⟨#[]⟩, .int .i64 0, .int .i64 0, .slice none 0 0, .slice none 0 0] 41)) (.cells #[.int .i64 6, .string ⟨#[]⟩, .int .i64 (1 + brg n 2147483647), .int .i64 0, .slice none 0 0] 36)
  have hS1 := blk_alloc (blk_alloc (blk_new w (.cells #[.int .i64 k, .int .i64 v, .int .i64 l, .int .i64 o, .int .i64 n] 84)) (.cells #[.int .i64 0, .int .i64 0, .int .i64 0, .int .i64 0, .int .i64 0, .int .i64 0, .int .i64 0, .string ⟨#[]⟩, .int .i64 0, .int .i64 0, .slice none 0 0, .slice none 0 0] 41)) (.cells #[.int .i64 6, .string ⟨#[]⟩, .int .i64 (1 + brg n 2147483647), .int .i64 0, .slice none 0 0] 36)
  have hQ1 := blk_alloc (blk_new (w.alloc (.cells #[.int .i64 k, .int .i64 v, .int .i64 l, .int .i64 o, .int .i64 n] 84)) (.cells #[.int .i64 0, .int .i64 0, .int .i64 0, .int .i64 0, .int .i64 0, .int .i64 0, .int .i64 0, .string ⟨#[]⟩, .int .i64 0, .int .i64 0, .slice none 0 0, .slice none 0 0] 41)) (.cells #[.int .i64 6, .string ⟨#[]⟩, .int .i64 (1 + brg n 2147483647), .int .i64 0, .slice none 0 0] 36)
  have hO1 := blk_new ((w.alloc (.cells #[.int .i64 k, .int .i64 v, .int .i64 l, .int .i64 o, .int .i64 n] 84)).alloc (.cells #[.int .i64 0, .int .i64 0, .int .i64 0, .int .i64 0, .int .i64 0, .int .i64 0, .int .i64 0, .string ⟨#[]⟩, .int .i64 0, .int .i64 0, .slice none 0 0, .slice none 0 0] 41)) (.cells #[.int .i64 6, .string ⟨#[]⟩, .int .i64 (1 + brg n 2147483647), .int .i64 0, .slice none 0 0] 36)
  simp only [World.size_alloc] at hQ1 hO1
  obtain ⟨u, hu⟩ : ∃ u, u = brg n 2147483647 := ⟨_, rfl⟩
  rw [← hu] at hq hw1
  simp only [← hu] at hB1 hS1 hQ1 hO1 ⊢
  clear hu hw1
  generalize ((w.alloc (.cells #[.int .i64 k, .int .i64 v, .int .i64 l, .int .i64 o, .int .i64 n] 84)).alloc (.cells #[.int .i64 0, .int .i64 0, .int .i64 0, .int .i64 0, .int .i64 0, .int .i64 0, .int .i64 0, .string ⟨#[]⟩, .int .i64 0, .int .i64 0, .slice none 0 0, .slice none 0 0] 41)).alloc (.cells #[.int .i64 6, .string ⟨#[]⟩, .int .i64 (1 + u), .int .i64 0, .slice none 0 0] 36) = W1 at *
  have HU := Aside0.mk hq
  have HB1 := Aside0.mk hB1
  have HS1 := Aside0.mk hS1
  have HQ1 := Aside0.mk hQ1
  have HO1 := Aside0.mk hO1
  clear hq hB1 hS1 hQ1 hO1
  obtain ⟨c1, hc1⟩ : ∃ c1, c1 = brg o 8 := ⟨_, rfl⟩
  obtain ⟨n1, hn1⟩ : ∃ n1, n1 = brg v 2147483647 := ⟨_, rfl⟩
  have hcr := brg_range o 8 (by omega)
  have hnr := brg_range v 2147483647 (by omega)
  have hbc := fun W => bring W o 8 (by omega) (by omega)
  have hbn := fun W => bring W v 2147483647 (by omega) (by omega)
  rw [← hc1] at hcr
  rw [← hn1] at hnr
  simp only [← hc1] at hbc
  simp only [← hn1] at hbn
  have hwn : wrap64 (1 + n1) = 1 + n1 := wrap64_in (by omega) (by omega)
  have hwi : IntKind.i64.wrap (1 + n1) = 1 + n1 := by have h := hwn; unfold wrap64 at h; rw [IntKind.wrap_i64]; exact h
  have HCR := Aside0.mk hcr
  have HNR := Aside0.mk hnr
  have HBC := Aside0.mk hbc
  have HBN := Aside0.mk hbn
  clear hcr hnr hbc hbn hc1 hn1
  go_cut [4] (fun s4 wx => ∃ h, s4 = .pointer (some ⟨h, 0, none⟩) ∧ Aside0 (w.heap.size + 3 ≤ h) ∧ Aside0 (wx.heap[h]? = some (.cells #[.int .i64 c1, .int .i64 (1 + n1), .int .i64 6, .string ⟨#[]⟩, .int .i64 (1 + u), .int .i64 0, .slice none 0 0] 38 (0, 0))) ∧ Aside0 (wx.heap[w.heap.size]? = some (.cells #[.int .i64 k, .int .i64 v, .int .i64 l, .int .i64 o, .int .i64 n] 84 (0, 0))) ∧ Aside0 (wx.heap[w.heap.size + 1]? = some (.cells (recC ⟨0, 0, 0, 0, zEnt, []⟩ (.slice none 0 0) (.slice none 0 0)) 41 (0, 0))) ∧ Aside0 (Below w.heap.size w wx))
  case first =>
    have hS : MdS w w.heap.size (w.heap.size + 2) k v l o n (1 + u) W1 := ⟨blk_cell HS1.out 0, blk_cell HS1.out 1, blk_cell HS1.out 2, blk_cell HS1.out 3, blk_cell HS1.out 4, blk_cell HO1.out 0, blk_cell HO1.out 1, blk_cell HO1.out 2, blk_cell HO1.out 3, blk_cell HO1.out 4, HB1⟩
    have hS2 := hS.drew
    go_region_held3 (fun W' => MdS w w.heap.size (w.heap.size + 2) k v l o n (1 + u) W') (first | assumption | (apply MdS.drew; assumption) | (apply MdS.drew; apply MdS.alloc; assumption) | (apply MdS.alloc; assumption))
      (first
        | (go_at_call_of 23 (Value.int IntKind.i64 o); refine (HBC.out _).mono ?_; rintro en w6 ⟨rfl, rfl⟩)
        | (go_at_call 23; refine (HBN.out _).mono ?_; rintro en w6 ⟨rfl, rfl⟩))
    all_goals
      go_wp2_with fail
      go_meet
      exact ⟨W1.heap.size, rfl, ⟨by have := blk_lt HO1.out; omega⟩, ⟨blk_drew (blk_new _ _)⟩, ⟨blk_drew (blk_alloc HS1.out _)⟩, ⟨blk_drew (blk_alloc HQ1.out _)⟩, ⟨below_drew (below_alloc HB1.out _)⟩⟩
  case rest =>
    clear HS1 HQ1 HO1 HB1 HBC HBN hwn hwi
    obtain ⟨h, rfl, HH, HE, HS, HQ, HB⟩ := hcut
    have har := brg_range v 9007199254740992 (by omega)
    have hbr := brg_range l 9007199254740992 (by omega)
    have hcr := brg_range o 9007199254740992 (by omega)
    have hkr := brg_range k 3 (by omega)
    have hba := fun W => bring W v 9007199254740992 (by omega) (by omega)
    have hbb := fun W => bring W l 9007199254740992 (by omega) (by omega)
    have hbc := fun W => bring W o 9007199254740992 (by omega) (by omega)
    have hbk := fun W => bring W k 3 (by omega) (by omega)
    generalize brg v 9007199254740992 = ra at *
    generalize brg l 9007199254740992 = rb at *
    generalize brg o 9007199254740992 = rc at *
    generalize brg k 3 = rk at *
    have HA := Aside0.mk har
    have HBr := Aside0.mk hbr
    have HC := Aside0.mk hcr
    have HK := Aside0.mk hkr
    have HBA := Aside0.mk hba
    have HBB := Aside0.mk hbb
    have HBC := Aside0.mk hbc
    have HBK := Aside0.mk hbk
    clear har hbr hcr hkr hba hbb hbc hbk
    have s0 := blk_cell HS.out 0
    have s1 := blk_cell HS.out 1
    have s2 := blk_cell HS.out 2
    have s3 := blk_cell HS.out 3
    have s4 := blk_cell HS.out 4
    go_upto_region 3 with fail
    go_quiet (first
      | (go_at_call_of 23 (Value.int IntKind.i64 v); refine Calls.quiet_of_same ((HBA.out _).mono fun _ _ h => ⟨h.1, h.2.symm⟩))
      | (go_at_call_of 23 (Value.int IntKind.i64 l); refine Calls.quiet_of_same ((HBB.out _).mono fun _ _ h => ⟨h.1, h.2.symm⟩))
      | (go_at_call 23; refine Calls.quiet_of_same ((HBC.out _).mono fun _ _ h => ⟨h.1, h.2.symm⟩)))
    have HE2 := Aside0.mk (blk_drewN HE.out nq)
    have HS2 := Aside0.mk (blk_drewN HS.out nq)
    have HQ2 := Aside0.mk (blk_drewN HQ.out nq)
    have HB2 := Aside0.mk (pw_below_drewN HB.out nq)
    clear s0 s1 s2 s3 s4 HE HS HQ HB HBA HBB HBC
    generalize wc.drewN nq = W2 at *
    have s0 := blk_cell HS2.out 0
    have hk3 : rk = 0 ∨ rk = 1 ∨ rk = 2 := by have := HK.out; omega
    rcases hk3 with rfl | rfl | rfl
    · obtain ⟨⟨q0, q1, q2, q3, q4, q5, q6, q7, q8, q9, q10, q11⟩, ⟨f0, f1, f2, f3, f4, f5, f6, f7, f8, f9, f10, f11⟩⟩ := box12 HQ2.out
      go_wp2_with (first | (go_at_call 23; refine (HBK.out _).mono ?_; rintro en w6 ⟨rfl, rfl⟩))
      refine bodyPost_ret (ret_made (r := ⟨1, ra, rb, 0, zEnt, []⟩) (v := .slice none 0 0) (u := .slice none 0 0) (put12_to HQ2.out) rfl) rfl ⟨⟨1, ra, rb, 0, zEnt, []⟩, _, _, rfl, rec1_ok ra rb (by have := HA.out; omega) (by have := HBr.out; omega), ⟨i64_zEnt, by simp⟩, Kd.R_nil _ _ _ _ _, Kd.R_nil _ _ _ _ _, below_grownG HB2.out (put12_grown _ _ _ _ _ _ _ _ _ _ _ _ _ _) (by omega)⟩
    · obtain ⟨⟨q0, q1, q2, q3, q4, q5, q6, q7, q8, q9, q10, q11⟩, ⟨f0, f1, f2, f3, f4, f5, f6, f7, f8, f9, f10, f11⟩⟩ := box12 HQ2.out
      obtain ⟨⟨d0, d1, d2, d3, d4, d5, d6⟩, _⟩ := box7 HE2.out
      go_wp2_with (first | (go_at_call 23; refine (HBK.out _).mono ?_; rintro en w6 ⟨rfl, rfl⟩))
      refine bodyPost_ret (ret_made (r := ⟨2, 0, 0, max rc 1, mdE c1 (1 + n1) (1 + u), []⟩) (v := .slice none 0 0) (u := .slice none 0 0) (put12_to HQ2.out) rfl) rfl ⟨⟨2, 0, 0, max rc 1, mdE c1 (1 + n1) (1 + u), []⟩, _, _, rfl, rec2_ok _ _ (by have := HC.out; omega) (mdE_ok _ _ _ HCR.out (by have := HNR.out; omega) (by have := HU.out; omega)), ⟨⟨by show (-9223372036854775808 : Int) ≤ 0; omega, by show (0 : Int) < 9223372036854775808; omega⟩, by simp⟩, Kd.R_nil _ _ _ _ _, Kd.R_nil _ _ _ _ _, below_grownG HB2.out (put12_grown _ _ _ _ _ _ _ _ _ _ _ _ _ _) (by omega)⟩
    · go_upto_region 10 with (first | (go_at_call 23; refine (HBK.out _).mono ?_; rintro en w6 ⟨rfl, rfl⟩))
      have hx := blk_new W2 (.cells #[.int .i64 3, .int .i64 ra, .int .i64 rb, .int .i64 rc, .int .i64 0, .int .i64 0, .int .i64 0, .string ⟨#[]⟩, .int .i64 0, .int .i64 0, .slice none 0 0, .slice none 0 0] 41)
      have hLP : Lp w h W2.heap.size k v l o n c1 (1 + u) (1 + n1) ⟨3, ra, rb, rc, zEnt, []⟩ (.slice none 0 0) (W2.alloc (.cells #[.int .i64 3, .int .i64 ra, .int .i64 rb, .int .i64 rc, .int .i64 0, .int .i64 0, .int .i64 0, .string ⟨#[]⟩, .int .i64 0, .int .i64 0, .slice none 0 0, .slice none 0 0] 41)) :=
        ⟨below_alloc HB2.out _, blk_alloc HE2.out _, blk_alloc HS2.out _, blk_alloc HQ2.out _, hx, Kd.R_nil _ _ _ _ _, HH.out, blk_lt HE2.out⟩
      obtain ⟨x, hxx⟩ : ∃ x, x = W2.heap.size := ⟨_, rfl⟩
      rw [← hxx] at hLP ⊢
      have HLP := Aside0.mk hLP
      clear hx hLP hxx HE2 HS2 HQ2 HB2 s0 HBK HK HH
      generalize W2.alloc (.cells #[.int .i64 3, .int .i64 ra, .int .i64 rb, .int .i64 rc, .int .i64 0, .int .i64 0, .int .i64 0, .string ⟨#[]⟩, .int .i64 0, .int .i64 0, .slice none 0 0, .slice none 0 0] 41) = W3 at *
      have hrn := brg_range n 25 (by omega)
      have hbn := fun W => bring W n 25 (by omega) (by omega)
      generalize brg n 25 = rn at *
      have HRN := Aside0.mk hrn
      have HBN := Aside0.mk hbn
      clear hrn hbn
      go_wp2_with fail
      go_loopw [9] (fun s9 wr => ∃ (j : Nat) (ji num : Int) (es : List Ent) (vr : Value), s9 = .int .i64 ji ∧ Aside0 (ji = (j : Int)) ∧ Aside0 (ji ≤ rn) ∧ Aside0 (es.length = j) ∧ Aside0 (es.all entOk = true) ∧ Aside0 (∀ y ∈ es, I64 y.f2.f3) ∧ Aside0 (Lp w h x k v l o n c1 (1 + u) num ⟨3, ra, rb, rc, zEnt, es⟩ vr wr)) (fun s9 _ => rn.toNat - (intOf s9).toNat)
      case atStart => exact ⟨0, 0, _, [], _, rfl, ⟨rfl⟩, ⟨HRN.out.1⟩, ⟨rfl⟩, ⟨rfl⟩, ⟨by simp⟩, HLP⟩
      case round =>
        clear HLP
        obtain ⟨j, ji, num, es, vr, rfl, HJ, HJR, HEL, HEO, HEI, HLP⟩ := hrel
        have s4 := blk_cell HLP.out.hs 4
        by_cases hlt : ji < rn
        · have hb : decide (ji < rn) = true := decide_eq_true hlt
          have HLT := Aside0.mk hlt
          have hwj : wrap64 (1 + ji) = 1 + ji := by have := HJ.out; have := HRN.out; exact wrap64_in (by omega) (by omega)
          have hwk : wrap64 (ji + 1) = ji + 1 := by have := HJ.out; have := HRN.out; exact wrap64_in (by omega) (by omega)
          have e1 := blk_cell HLP.out.he 1
          have ef1 := blk_frozen HLP.out.he 1
          clear hlt
          go_upto_region 14 with (first | (go_at_call 23; refine (HBN.out _).mono ?_; rintro en w6 ⟨rfl, rfl⟩))
          have HLP2 := Aside0.mk (HLP.out.num (1 + ji))
          clear HLP s4 e1 ef1
          generalize wr.setCell ⟨h, 1, none⟩ (.int .i64 (1 + ji)) = wr2 at *
          obtain ⟨⟨d0, d1, d2, d3, d4, d5, d6⟩, _⟩ := box7 HLP2.out.he
          have g11 := blk_cell HLP2.out.hx 11
          have hll : (es.length + 1) * 80 ≤ 140737488355328 := by have h1 := HEL.out; have h2 := HJ.out; have h3 := HLT.out; have h4 := HRN.out; omega
          have HLL := Aside0.mk hll
          clear hll
          go_wp2_with (first | ((with_reducible refine gate_builtin (b := .append) (xs := #[.tmp 62, .tmp 64]) rfl ?_); at_builtin; go_loud (refine Kd.R_append kEnt (w0 := w) w.heap.size rfl (.tmp 62) (.tmp 64) 39 38 (.agg #[(.int .i64 0), (.int .i64 0), (.int .i64 0), (.string ⟨#[]⟩), (.int .i64 0), (.int .i64 0), (.slice none 0 0)]) 80 rfl Tryd.underlying39 infoEnt rfl (by decide) (by omega) vr es (mdE c1 (1 + ji) (1 + u)) [.int .i64 c1, .int .i64 (1 + ji), .int .i64 6, .string ⟨#[]⟩, .int .i64 (1 + u), .int .i64 0, .slice none 0 0] (fun j => j ≠ h ∧ j ≠ x ∧ j ≠ w.heap.size ∧ j ≠ w.heap.size + 1) (fun _ => False) rfl ?aX ?aP ?aK ?aF ?aO ?aB ?aS ?aL ?_; (case aX => first | rfl | (simp only [World.size_alloc]; rfl)); (case aP => exact k38_mkM _ _ _ (mdE c1 (1 + ji) (1 + u)) (Kd.R_nil _ _ _ _ _)); (case aK => exact (fun _ hk => hk.elim)); (case aB => exact HLP2.out.low); (case aF => exact (fun j hj => ⟨fun e => by have := blk_lt HLP2.out.he; omega, fun e => by have := blk_lt HLP2.out.hx; omega, fun e => by have := blk_lt HLP2.out.hs; omega, fun e => by have := blk_lt HLP2.out.hq; omega⟩)); (case aO => exact HLP2.out.row); (case aS => exact HLP2.out.low.size); (case aL => exact HLL.out); intro v7 w7 hv hw hg7 hat7; obtain ⟨A7, c7, e7⟩ := Kd.R_slice hv; have hl7 : (es ++ [mdE c1 (1 + ji) (1 + u)]).length = es.length + 1 := (by simp); rw [hl7] at e7; subst e7; clear hl7; have HLP7 := Aside0.mk (Lp.app HLP2.out hw hv hg7); obtain ⟨g7, g8⟩ := Lp.cell11 HLP2.out hg7; clear hv hw hg7 hat7)))
          go_roundw
          case rel =>
            refine ⟨j + 1, ji + 1, 1 + ji, es ++ [mdE c1 (1 + ji) (1 + u)], _, by rw [hwk], ⟨by have := HJ.out; omega⟩, ⟨by have := HLT.out; omega⟩, ⟨by rw [List.length_append, HEL.out]; rfl⟩, ⟨?_⟩, ⟨?_⟩, HLP7⟩
            · rw [List.all_append, HEO.out]
              have h1 := mdE_ok c1 (1 + ji) (1 + u) HCR.out (by have := HJ.out; have := HLT.out; have := HRN.out; omega) (by have := HU.out; omega)
              simp [h1]
            · intro y hy
              rcases List.mem_append.1 hy with h1 | h1
              · exact HEI.out y h1
              · rw [List.mem_singleton.1 h1]
                exact ⟨by show (-9223372036854775808 : Int) ≤ 0; omega, by show (0 : Int) < 9223372036854775808; omega⟩
          case measure =>
            have h1 := HLT.out
            have h2 := HJ.out
            rw [hwk]
            simp only [intOf]
            omega
        · have hb : decide (ji < rn) = false := decide_eq_false hlt
          have HLEN := Aside0.mk (show es.length ≤ 24 by have h1 := HEL.out; have h2 := HJ.out; have h3 := HJR.out; have h4 := HRN.out; omega)
          obtain ⟨⟨q0, q1, q2, q3, q4, q5, q6, q7, q8, q9, q10, q11⟩, ⟨f0, f1, f2, f3, f4, f5, f6, f7, f8, f9, f10, f11⟩⟩ := box12 HLP.out.hq
          obtain ⟨Av, cv, ev⟩ := Kd.R_slice HLP.out.row
          have ev : vr = .slice Av es.length cv := ev
          subst ev
          obtain ⟨⟨x0, x1, x2, x3, x4, x5, x6, x7, x8, x9, x10, x11⟩, _⟩ := box12 HLP.out.hx
          clear hlt
          go_wp2_with (first | (go_at_call 23; refine (HBN.out _).mono ?_; rintro en w6 ⟨rfl, rfl⟩))
          have hgr := put12_grown wr (w.heap.size + 1) (.int .i64 3) (.int .i64 ra) (.int .i64 rb) (.int .i64 rc) (.int .i64 0) (.int .i64 0) (.int .i64 0) (.string ⟨#[]⟩) (.int .i64 0) (.int .i64 0) (.slice none 0 0) (.slice Av es.length cv)
          refine bodyPost_ret (ret_made (r := ⟨3, ra, rb, rc, zEnt, es⟩) (v := .slice none 0 0) (u := .slice Av es.length cv) (put12_to HLP.out.hq) rfl) rfl ⟨⟨3, ra, rb, rc, zEnt, es⟩, _, _, rfl, rec3_ok ra rb rc es (by have := HA.out; omega) (by have := HBr.out; omega) (by have := HC.out; omega) HEO.out HLEN.out, ⟨i64_zEnt, HEI.out⟩, Kd.R_nil _ _ _ _ _, ?_, below_grownG HLP.out.low hgr (by omega)⟩
          exact Kd.R_mono (Kd.R_grown HLP.out.row hgr (fun j hj e => hj.2.2.2 (Option.some.inj e))) (fun _ _ => trivial)
end Go.Proofs.YtmeblifbkhpdnaaDoor.K
/- The laws' helper row: records that may be, their bytes, and where each one ends. -/
namespace Go.Proofs.YtmeblifbkhpdnaaDoor.K
set_option linter.unusedVariables false
set_option linter.unusedSimpArgs false
open Go.RowKit Go.Proofs.YtmeblifbkhpdnaaDoorW.PrintWords Go.Proofs.YtmeblifbkhpdnaaDoorW.PrintLast Go.Proofs.YtmeblifbkhpdnaaDoorW.PrintMore
attribute [local go_sem] max2_int min2_int
/-- A seed, as numbers. -/
structure Sd where
  k : Int
  v : Int
  l : Int
  o : Int
  n : Int
/-- A row of seeds, as it lies. -/
def Seeds (W : World) (A : Option Addr) (l : List Sd) : Prop := ∀ (i : Nat) (h : i < l.length), ∃ ad, A = some ad ∧ W.cell? (ad.add (i * 5)) = some (.int .i64 l[i].k) ∧ W.cell? ⟨(ad.add (i * 5)).block, (ad.add (i * 5)).off + 1, none⟩ = some (.int .i64 l[i].v) ∧ W.cell? ⟨(ad.add (i * 5)).block, (ad.add (i * 5)).off + 2, none⟩ = some (.int .i64 l[i].l) ∧ W.cell? ⟨(ad.add (i * 5)).block, (ad.add (i * 5)).off + 3, none⟩ = some (.int .i64 l[i].o) ∧ W.cell? ⟨(ad.add (i * 5)).block, (ad.add (i * 5)).off + 4, none⟩ = some (.int .i64 l[i].n)
theorem Seeds.below {w W : World} {A : Option Addr} {l : List Sd} (h : Seeds w A l) (hb : Below w.heap.size w W) : Seeds W A l := by
  intro i hi
  obtain ⟨ad, e, h0, h1, h2, h3, h4⟩ := h i hi
  exact ⟨ad, e, (hb.cell (cell_blk h0)).trans h0, (hb.cell (cell_blk h1)).trans h1, (hb.cell (cell_blk h2)).trans h2, (hb.cell (cell_blk h3)).trans h3, (hb.cell (cell_blk h4)).trans h4⟩
/-- Where each record ends. -/
def endsOf (rs : List Rec) : List Int := (List.range rs.length).map fun k => ((jB (rs.take (k + 1))).length : Int)
theorem endsOf_len (rs : List Rec) : (endsOf rs).length = rs.length := by simp [endsOf]
theorem endsOf_snoc (rs : List Rec) (r : Rec) : endsOf (rs ++ [r]) = endsOf rs ++ [(((jB rs).length + (recB r).length : Nat) : Int)] := by
  unfold endsOf
  rw [List.length_append, List.length_singleton, List.range_succ, List.map_append]
  congr 1
  · apply List.map_congr_left
    intro k hk
    have hk := List.mem_range.1 hk
    rw [List.take_append_of_le_length (by omega)]
  · rw [List.map_singleton, List.take_of_length_le (by simp), jB_append, List.length_append]
    simp [jB]
theorem jB_len (rs : List Rec) (h : RecsOk rs) : (jB rs).length ≤ 4599 * rs.length :=
  flatMap_len recB 4599 rs (fun x hx => by rw [recB_len]; have := body_len x (h x hx).1 (h x hx).2; omega)
theorem recB_nine (x : Rec) : 9 ≤ (recB x).length := by
  rw [recB_len, body_eq]
  simp only [List.length_cons]
  omega
theorem infoint : (Tryd.prog.info? 3).map (fun i => (i.zero, i.size, i.bytes)) = some (some (.int .i64 0), 1, 8) := by kernel_rfl
/-- While rows are made: the records, their bytes, the ends. -/
structure Rw (w : World) (s6 s7 s8 : Value) (rs : List Rec) (W : World) : Prop where
  low : Below w.heap.size w W
  out : Kd.R kRec 41 W w.heap.size (fun _ => True) s6 rs
  all : Kd.R (Kd.int .u8) 5 W w.heap.size (fun _ => True) s7 (jB rs)
  ends : Kd.R (Kd.int .i64) 3 W w.heap.size (fun _ => True) s8 (endsOf rs)
theorem Rw.below {w W W' : World} {s6 s7 s8 : Value} {rs : List Rec} (h : Rw w s6 s7 s8 rs W) (hb : Below W.heap.size W W') : Rw w s6 s7 s8 rs W' :=
  ⟨h.low.trans (hb.mono h.low.size), Kd.R_below h.out hb, Kd.R_below h.all hb, Kd.R_below h.ends hb⟩
theorem results_row4 {fn : Func} {t u v x : Tmp} (h : fn.results = #[.tmp t, .tmp u, .tmp v, .tmp x]) (tmps : Array Value) (w : World) :
    (results fn tmps).run Tryd.prog w = .ok (.tuple #[tmps.getD t undef, tmps.getD u undef, tmps.getD v undef, tmps.getD x undef]) w := by
  simp [results, h]
set_option maxRecDepth 20000 in
set_option maxHeartbeats 8000000 in
theorem row_runs (w : World) (A : Option Addr) (c : Nat) (l : List Sd) (hG : GItem w) (hH : GRec w) (hS : Seeds w A l) (hc : l.length ≤ c) (hm : l.length ≤ maxLen) :
    Calls Tryd.prog 21 #[.slice A l.length c] w fun en w' => ∃ rs s6 s7 s8, en = .returned (.tuple #[s6, s7, s8, .bool true]) ∧ RecsOk rs ∧ rs.length ≤ 12 ∧ Rw w s6 s7 s8 rs w' := by
  have HG := Aside0.mk hG
  have HH := Aside0.mk hH
  have HS := Aside0.mk hS
  have HM := Aside0.mk hm
  clear hG hH hS hm
  go_enter Tryd.func21, Tryd.ntmps21
  go_wp2_with fail
  go_loopw [6, 7, 8, 9] (fun s6 s7 s8 s9 wr => ∃ (k : Nat) (rs : List Rec), s9 = .int .i64 (k : Int) ∧ k ≤ 12 ∧ Aside0 (rs.length = k) ∧ Aside0 (RecsOk rs) ∧ Aside0 (Rw w s6 s7 s8 rs wr)) (fun _ _ _ s9 _ => 12 - (intOf s9).toNat)
  case atStart => exact ⟨0, [], rfl, by omega, ⟨rfl⟩, ⟨by intro r hr; cases hr⟩, ⟨Below.refl _ _, Kd.R_nil _ _ _ _ _, Kd.R_nil _ _ _ _ _, Kd.R_nil _ _ _ _ _⟩⟩
  case round =>
    obtain ⟨k, rs, rfl, hk, HK, HR, HW⟩ := hrel
    by_cases hlt : k < l.length
    · have hb1 : decide ((k : Int) < (l.length : Int)) = true := by simp; omega
      by_cases h12 : k < 12
      · have hb2 : decide ((k : Int) < 12) = true := decide_eq_true (by omega)
        obtain ⟨ad, e1, c0, c1, c2, c3, c4⟩ := HS.out.below HW.out.low k hlt
        cases e1
        generalize l[k] = y at *
        go_upto_region 8 with (first | (go_at_call 52; refine (made_runs _ y.k y.v y.l y.o y.n).mono ?_; rintro en w3 ⟨r, v, u, rfl, hok, hrw, hv, hu, hb⟩; obtain ⟨A6, c6, e6⟩ := Kd.R_slice hv; subst e6; obtain ⟨A7, c7, e7⟩ := Kd.R_slice hu; subst e7; have HV := Aside0.mk hv; have HU := Aside0.mk hu; have HB3 := Aside0.mk hb; have HOK := Aside0.mk hok; have HRW := Aside0.mk hrw; clear hv hu hb hok hrw))
        have hW3 := below_alloc (Below.refl w3.heap.size w3) (.cells (recC r (.slice A6 r.f4.f2.f4.length c6) (.slice A7 r.f5.length c7)) 41)
        have HX3 := Aside0.mk (blk_new w3 (.cells (recC r (.slice A6 r.f4.f2.f4.length c6) (.slice A7 r.f5.length c7)) 41))
        have HRW3 := Aside0.mk (HW.out.below (HB3.out.trans (hW3.mono HB3.out.size)))
        have HV3 := Aside0.mk (Kd.R_lower (Kd.R_below HV.out hW3) HW.out.low.size)
        have HU3 := Aside0.mk (Kd.R_lower (Kd.R_below HU.out hW3) HW.out.low.size)
        clear hW3 HB3 HV HU HW c0 c1 c2 c3 c4 HS
        generalize w3.heap.size = q at *
        generalize w3.alloc (.cells (recC r (.slice A6 r.f4.f2.f4.length c6) (.slice A7 r.f5.length c7)) 41) = W3 at *
        have HGI := Aside0.mk (HG.out.below HRW3.out.low)
        have HGR := Aside0.mk (HH.out.below HRW3.out.low)
        have HMB := Aside0.mk (record_Bytes W3 A6 A7 c6 c7 r HGI.out HGR.out (Kd.R_reads' HV3.out).2.2 (Kd.R_reads' HV3.out).2.1 (Kd.R_reads' HU3.out).2.2 (Kd.R_reads' HU3.out).2.1 HRW.out)
        have hR : recR r = recB r := by unfold recR; rw [HOK.out]; rfl
        rw [recE_zero r HOK.out, hR] at HMB
        clear hR
        have HMC := Aside0.mk (fun W (hW : Below W3.heap.size W3 W) => record_Check W A6 A7 c6 c7 r (HGI.out.below hW) (HGR.out.below hW) (Kd.C_below (Kd.R_reads' HV3.out).2.2 hW) (Kd.R_reads' HV3.out).2.1 (Kd.C_below (Kd.R_reads' HU3.out).2.2 hW) (Kd.R_reads' HU3.out).2.1)
        rw [recE_zero r HOK.out] at HMC
        obtain ⟨xb, hxb⟩ : ∃ xb, xb = recB r := ⟨_, rfl⟩
        have H9 := Aside0.mk (recB_nine r)
        have HXL := Aside0.mk (show (recB r).length ≤ 4599 by rw [recB_len]; have := body_len r HOK.out HRW.out; omega)
        rw [← hxb] at HMB H9 HXL
        have HXB := Aside0.mk hxb
        clear hxb
        have h9 : decide ((xb.length : Int) < 9) = false := decide_eq_false (by have := H9.out; omega)
        obtain ⟨⟨q0, q1, q2, q3, q4, q5, q6, q7, q8, q9, q10, q11⟩, _⟩ := box12 HX3.out
        go_upto_region 9 with (first | (go_at_call 14; refine HMB.out.mono ?_; rintro en w4 ⟨v, rfl, hv, hb⟩; obtain ⟨A8, c8, e8⟩ := Kd.R_slice hv; subst e8; have HO4 := Aside0.mk (Kd.R_lower hv HRW3.out.low.size); have HB4 := Aside0.mk hb; clear hv hb))
        clear HMB q0 q1 q2 q3 q4 q5 q6 q7 q8 q9 q10 q11
        obtain ⟨⟨q0, q1, q2, q3, q4, q5, q6, q7, q8, q9, q10, q11⟩, _⟩ := box12 (blk_below HX3.out HB4.out)
        go_upto_region 11 with (first | (go_at_call 17; refine (HMC.out _ HB4.out).mono ?_; rintro en w5 ⟨rfl, hb⟩; have HO5 := Aside0.mk (Kd.R_below HO4.out hb); have HB5 := Aside0.mk (HB4.out.trans (hb.mono HB4.out.size)); clear hb))
        clear HMC q0 q1 q2 q3 q4 q5 q6 q7 q8 q9 q10 q11 HO4 HB4
        have HR5 := Aside0.mk (HRW3.out.below HB5.out)
        have HV5 := Aside0.mk (Kd.R_apart' (Kd.R_below HV3.out HB5.out) (Kd.R_typed HR5.out.out) (by decide))
        have HU5 := Aside0.mk (Kd.R_apart' (Kd.R_below HU3.out HB5.out) (Kd.R_typed HR5.out.out) (by decide))
        obtain ⟨⟨q0, q1, q2, q3, q4, q5, q6, q7, q8, q9, q10, q11⟩, _⟩ := box12 (blk_below HX3.out HB5.out)
        have HBND := Aside0.mk (show (rs.length + 1) * 136 ≤ 140737488355328 by have := HK.out; omega)
        clear HRW3 HV3 HU3 HX3 HB5 HGI HGR
        go_upto_region 12 with (first | ((with_reducible refine gate_builtin (b := .append) (xs := #[.tmp 45, .tmp 47]) rfl ?_); at_builtin; go_loud (refine Kd.R_append kRec (w0 := w) w.heap.size rfl (.tmp 45) (.tmp 47) 24 41 (.agg #[(.int .i64 0), (.int .i64 0), (.int .i64 0), (.int .i64 0), (.int .i64 0), (.int .i64 0), (.int .i64 0), (.string ⟨#[]⟩), (.int .i64 0), (.int .i64 0), (.slice none 0 0), (.slice none 0 0)]) 136 rfl Tryd.underlying24 infoRec rfl (by decide) (by omega) u6 rs r [.int .i64 r.f0, .int .i64 r.f1, .int .i64 r.f2, .int .i64 r.f3, .int .i64 r.f4.f0, .int .i64 r.f4.f1, .int .i64 r.f4.f2.f0, .string r.f4.f2.f1, .int .i64 r.f4.f2.f2, .int .i64 r.f4.f2.f3, .slice A6 r.f4.f2.f4.length c6, .slice A7 r.f5.length c7] (fun _ => True) (fun k => True ∧ some k ≠ u6.ownBlock) rfl ?aX ?aP ?aK ?aF ?aO ?aB ?aS ?aL ?_; (case aX => first | rfl | (simp only [World.size_alloc]; rfl)); (case aP => exact k41_mkM _ _ _ r HV5.out HU5.out); (case aK => exact (fun k hk => ⟨trivial, hk.2⟩)); (case aB => exact HR5.out.low); (case aF => exact (fun _ _ => trivial)); (case aO => exact HR5.out.out); (case aS => exact HR5.out.low.size); (case aL => exact HBND.out); intro v7 w7 hv hw hg7 hat7; have HO7 := Aside0.mk hv; have HB7 := Aside0.mk hw; have HA7 := Aside0.mk (Kd.R_over HR5.out.all HR5.out.out (by decide) hg7); have HE7 := Aside0.mk (Kd.R_over HR5.out.ends HR5.out.out (by decide) hg7); have HX7 := Aside0.mk (Kd.R_over HO5.out HR5.out.out (by decide) hg7); clear hv hw hg7 hat7)))
        clear q0 q1 q2 q3 q4 q5 q6 q7 q8 q9 q10 q11 HR5 HV5 HU5 HO5 HBND
        have hjl := jB_len rs HR.out
        have HJL := Aside0.mk (show (jB rs).length + xb.length < 100000 by have := HXL.out; have := HK.out; omega)
        have HXC := Aside0.mk (Kd.R_reads' HX7.out).2.2
        have hxc := (Kd.R_reads' HX7.out).2.1
        clear hjl
        go_upto_region 13 with (first | ((with_reducible refine gate_builtin (b := .append) (xs := #[.tmp 49, .tmp 50]) rfl ?_); at_builtin; refine Kd.R_append_rows (Kd.int .u8) (w0 := w) w.heap.size rfl (.tmp 49) (.tmp 50) 22 5 (.int .u8 0) 1 rfl Tryd.underlying22 infou8 rfl (by decide) (by omega) (u7) (jB rs) (xb) _ _ _ (fun _ => True) (fun _ => False) rfl rfl ?aO ?aR (fun _ _ h => h) (fun _ h => h.elim) ?aF ?aB ?aS ?aL ?_; (case aR => repeat (first | exact HXC.out | (with_reducible refine Kd.C_alloc ?_ _) | (with_reducible refine Kd.C_drewN ?_ _) | (with_reducible refine Kd.C_drew ?_))); (case aB => exact (by repeat (first | (with_reducible first | exact HB7.out | apply below_alloc | apply pw_below_drewN | apply below_drew1) | exact HB7.out))); (case aF => exact (fun _ _ => trivial)); (case aO => exact (by (with_reducible repeat (first | apply Kd.R_alloc | apply Kd.R_drewN | apply Kd.R_drew)); exact HA7.out)); (case aS => exact (below_size (by repeat (first | (with_reducible first | exact HB7.out | apply below_alloc | apply pw_below_drewN | apply below_drew1) | exact HB7.out)))); (case aL => (have h := HJL.out; omega)); intro v7 w7 hv hw hg7 hat7; have HG7 := Aside0.mk hg7; clear hg7 hat7))
        have HO8 := Aside0.mk (Kd.R_over HO7.out HA7.out (by decide) HG7.out)
        have HE8 := Aside0.mk (Kd.R_over HE7.out HA7.out (by decide) HG7.out)
        obtain ⟨m, hm⟩ : ∃ m, m = (jB rs).length + xb.length := ⟨_, rfl⟩
        obtain ⟨A9, c9, e9⟩ := Kd.R_slice hv
        rw [List.length_append, ← hm] at e9
        subst e9
        have HA8 := Aside0.mk hv
        have HB8 := Aside0.mk hw
        have HMM := Aside0.mk hm
        have HEL := Aside0.mk (show ((endsOf rs).length + 1) * 8 ≤ 140737488355328 by rw [endsOf_len, HK.out]; omega)
        clear hv hw hm HG7 HX7 HXC hxc HO7 HE7 HA7 HB7
        go_wp2_with (first | ((with_reducible refine gate_builtin (b := .append) (xs := #[.tmp 52, .tmp 55]) rfl ?_); at_builtin; go_loud (refine Kd.R_append (Kd.int .i64) (w0 := w) w.heap.size rfl (.tmp 52) (.tmp 55) 46 3 (.int .i64 0) 8 rfl Tryd.underlying46 infoint rfl (by decide) (by omega) u8 (endsOf rs) (m : Int) [.int .i64 (m : Int)] (fun _ => True) (fun _ => False) rfl ?aX ?aP ?aK ?aF ?aO ?aB ?aS ?aL ?_; (case aX => first | rfl | (simp only [World.size_alloc]; rfl)); (case aP => exact rfl); (case aK => exact (fun k hk => hk.elim)); (case aB => exact HB8.out); (case aF => exact (fun _ _ => trivial)); (case aO => exact HE8.out); (case aS => exact HB8.out.size); (case aL => exact HEL.out); intro v10 w10 hv hw hg7 hat7; have HE10 := Aside0.mk hv; have HB10 := Aside0.mk hw; have HO10 := Aside0.mk (Kd.R_over HO8.out HE8.out (by decide) hg7); have HA10 := Aside0.mk (Kd.R_over HA8.out HE8.out (by decide) hg7); clear hv hw hg7 hat7)))
        have hwk : wrap64 ((k : Int) + 1) = ((k + 1 : Nat) : Int) := by rw [wrap64_in (by omega) (by omega)]; omega
        go_roundw
        case rel =>
          refine ⟨k + 1, rs ++ [r], by first | rfl | (rw [hwk]), by omega, ⟨by rw [List.length_append, HK.out]; rfl⟩, ⟨?_⟩, ⟨HB10.out, HO10.out, ?_, ?_⟩⟩
          · intro y hy
            rcases List.mem_append.1 hy with h1 | h1
            · exact HR.out y h1
            · rw [List.mem_singleton.1 h1]
              exact ⟨HOK.out, HRW.out⟩
          · have h1 := HA10.out
            rw [HXB.out] at h1
            rw [jB_append]
            have h2 : jB [r] = recB r := List.append_nil _
            rw [h2]
            exact h1
          · have h1 := HE10.out
            rw [HMM.out, HXB.out, ← endsOf_snoc] at h1
            exact h1
        case measure =>
          try rw [hwk]
          simp only [intOf]
          omega
      · have hb2 : decide ((k : Int) < 12) = false := decide_eq_false (by omega)
        go_wp2_with fail
        (try simp only [Exit.inBlock, Exit.then])
        refine bodyPost_ret (results_row4 rfl _ _) rfl ⟨rs, u6, u7, u8, rfl, HR.out, by have := HK.out; omega, HW.out⟩
    · have hb1 : decide ((k : Int) < (l.length : Int)) = false := by simp; omega
      go_wp2_with fail
      (try simp only [Exit.inBlock, Exit.then])
      refine bodyPost_ret (results_row4 rfl _ _) rfl ⟨rs, u6, u7, u8, rfl, HR.out, by have := HK.out; omega, HW.out⟩
end Go.Proofs.YtmeblifbkhpdnaaDoor.K
/- The laws' helper tells. -/
namespace Go.Proofs.YtmeblifbkhpdnaaDoor.K
set_option linter.unusedVariables false
set_option linter.unusedSimpArgs false
open Go.RowKit Go.Proofs.YtmeblifbkhpdnaaDoorW.PrintWords Go.Proofs.YtmeblifbkhpdnaaDoorW.PrintLast Go.Proofs.YtmeblifbkhpdnaaDoorW.PrintMore
attribute [local go_sem] max2_int min2_int
/-- Two records, as they lie in rows. -/
abbrev TBX (w0 : World) (a : Addr) (r : Rec) (v u : Value) (a' : Addr) (r' : Rec) (v' u' : Value) (W : World) : Prop :=
  W.cell? a = some (.int .i64 r.f0) ∧ W.cell? ⟨a.block, a.off + 1, none⟩ = some (.int .i64 r.f1) ∧ W.cell? ⟨a.block, a.off + 2, none⟩ = some (.int .i64 r.f2) ∧ W.cell? ⟨a.block, a.off + 3, none⟩ = some (.int .i64 r.f3) ∧ W.cell? ⟨a.block, a.off + 4, none⟩ = some (.int .i64 r.f4.f0) ∧ W.cell? ⟨a.block, a.off + 5, none⟩ = some (.int .i64 r.f4.f1) ∧ W.cell? ⟨a.block, a.off + 6, none⟩ = some (.int .i64 r.f4.f2.f0) ∧ W.cell? ⟨a.block, a.off + 7, none⟩ = some (.string r.f4.f2.f1) ∧ W.cell? ⟨a.block, a.off + 8, none⟩ = some (.int .i64 r.f4.f2.f2) ∧ W.cell? ⟨a.block, a.off + 9, none⟩ = some (.int .i64 r.f4.f2.f3) ∧ W.cell? ⟨a.block, a.off + 10, none⟩ = some v ∧ W.cell? ⟨a.block, a.off + 11, none⟩ = some u ∧
  W.cell? a' = some (.int .i64 r'.f0) ∧ W.cell? ⟨a'.block, a'.off + 1, none⟩ = some (.int .i64 r'.f1) ∧ W.cell? ⟨a'.block, a'.off + 2, none⟩ = some (.int .i64 r'.f2) ∧ W.cell? ⟨a'.block, a'.off + 3, none⟩ = some (.int .i64 r'.f3) ∧ W.cell? ⟨a'.block, a'.off + 4, none⟩ = some (.int .i64 r'.f4.f0) ∧ W.cell? ⟨a'.block, a'.off + 5, none⟩ = some (.int .i64 r'.f4.f1) ∧ W.cell? ⟨a'.block, a'.off + 6, none⟩ = some (.int .i64 r'.f4.f2.f0) ∧ W.cell? ⟨a'.block, a'.off + 7, none⟩ = some (.string r'.f4.f2.f1) ∧ W.cell? ⟨a'.block, a'.off + 8, none⟩ = some (.int .i64 r'.f4.f2.f2) ∧ W.cell? ⟨a'.block, a'.off + 9, none⟩ = some (.int .i64 r'.f4.f2.f3) ∧ W.cell? ⟨a'.block, a'.off + 10, none⟩ = some v' ∧ W.cell? ⟨a'.block, a'.off + 11, none⟩ = some u' ∧ Aside0 (Below w0.heap.size w0 W)
theorem TBX.next {w0 W W' : World} {a a' : Addr} {r r' : Rec} {v u v' u' : Value} (h : TBX w0 a r v u a' r' v' u' W) (hb : Below W.heap.size W W') : TBX w0 a r v u a' r' v' u' W' := by
  obtain ⟨s0, s1, s2, s3, s4, s5, s6, s7, s8, s9, s10, s11, t0, t1, t2, t3, t4, t5, t6, t7, t8, t9, t10, t11, s⟩ := h
  have c : ∀ {p : Addr} {x : Value}, W.cell? p = some x → W'.cell? p = some x := fun h => (hb.cell (cell_blk h)).trans h
  exact ⟨c s0, c s1, c s2, c s3, c s4, c s5, c s6, c s7, c s8, c s9, c s10, c s11, c t0, c t1, c t2, c t3, c t4, c t5, c t6, c t7, c t8, c t9, c t10, c t11, ⟨s.out.trans (hb.mono s.out.size)⟩⟩
theorem TBX.low {w0 W : World} {a a' : Addr} {r r' : Rec} {v u v' u' : Value} (h : TBX w0 a r v u a' r' v' u' W) : Below w0.heap.size w0 W := h.2.2.2.2.2.2.2.2.2.2.2.2.2.2.2.2.2.2.2.2.2.2.2.2.out
theorem endsOf_at (rs : List Rec) (m : Nat) (h0 : 0 < m) (h : m ≤ rs.length) : rd (endsOf rs) ((m - 1 : Nat) : Int) = ((jB (rs.take m)).length : Int) := by
  rw [rd_at (endsOf rs) (m - 1) (by rw [endsOf_len]; omega)]
  unfold endsOf
  rw [List.getElem_map, List.getElem_range, show m - 1 + 1 = m by omega]
set_option maxRecDepth 20000 in
set_option maxHeartbeats 8000000 in
theorem tells_runs (w : World) (A : Option Addr) (c : Nat) (b : List Int) (B : Option Addr) (d : Nat) (rs : List Rec) (E : Option Addr) (e : Nat) (m : Nat) (er : Int) (hG : GItem w) (hH : GRec w) (hC : Kd.C (Kd.int .u8) w A b.length b) (hc : b.length ≤ c) (hb : CrcMath.Bytes b) (hl : b.length < 1099511627776)
    (hB : kRec.C w B rs.length rs) (hE : Kd.C (Kd.int .i64) w E rs.length (endsOf rs)) (hm : m ≤ rs.length) (hr : rs.length ≤ 12) (hp : pScan b = (rs.take m, (jB (rs.take m)).length, er)) :
    Calls Tryd.prog 22 #[.slice A b.length c, .slice B rs.length d, .slice E rs.length e, .int .i64 (m : Int), .int .i64 er] w fun en w' => en = .returned (.bool true) ∧ Below w.heap.size w w' := by
  have hlt : (rs.take m).length = m := by rw [List.length_take]; omega
  have hs := scan_told b (rs.take m) (jB (rs.take m)).length er hp hb hl w hG hH A c hC hc
  rw [hlt] at hs
  have hat : 0 < m → rd (endsOf rs) ((m - 1 : Nat) : Int) = ((jB (rs.take m)).length : Int) := fun h => endsOf_at rs m h hm
  have hz : m = 0 → ((jB (rs.take m)).length : Int) = 0 := fun h => by rw [h]; rfl
  have HS := Aside0.mk hs
  generalize ((jB (rs.take m)).length : Int) = N at *
  have HAT := Aside0.mk hat
  have HZ := Aside0.mk hz
  have HB := Aside0.mk hB
  have HE := Aside0.mk hE
  have HM := Aside0.mk hm
  have HR := Aside0.mk hr
  clear hlt hs hp hat hz hG hH hC hc hb hl hB hE hr
  go_enter Tryd.func22, Tryd.ntmps22
  go_upto_if 23 with (first | (go_at_call 9; refine HS.out.mono ?_; rintro en w2 ⟨A1, c1, rfl, hv, hb⟩; have HV := Aside0.mk (Kd.R_reads' hv).2; have HB2 := Aside0.mk hb; clear hv hb))
  clear HS
  go_cut [14] (fun s14 wx => s14 = .int .i64 N ∧ wx = w2)
  case first =>
    by_cases h0 : m = 0
    · subst h0
      have hN := HZ.out rfl
      subst hN
      go_wp2_with fail
      go_meet
      exact ⟨rfl, rfl⟩
    · have hm0 : 0 < m := by omega
      have hg : decide (0 < m) = true := decide_eq_true hm0
      have hN := HAT.out hm0
      obtain ⟨ad, e1, hc⟩ := Kd.at_int (Kd.C_below HE.out HB2.out) ((m - 1 : Nat) : Int) (by omega) (by omega)
      cases e1
      rw [hN, Int.toNat_natCast] at hc
      have hw1 : wrap64 ((m : Int) - 1) = ((m - 1 : Nat) : Int) := by have := HR.out; rw [wrap64_in (by omega) (by omega)]; omega
      have hd1 : decide (((m - 1 : Nat) : Int) < (rs.length : Int)) = true := decide_eq_true (by omega)
      have hlt2 : m - 1 < rs.length := by omega
      go_wp2_with fail
      go_meet
      exact ⟨rfl, rfl⟩
  case rest =>
    obtain ⟨rfl, rfl⟩ := hcut
    clear HAT HZ HE
    go_wp2_with fail
    go_loopw [15] (fun s15 wr => ∃ k : Nat, k ≤ m ∧ s15 = .int .i64 (k : Int) ∧ Aside0 (Below wc.heap.size wc wr)) (fun s15 _ => m - (intOf s15).toNat)
    case atStart => exact ⟨0, by omega, rfl, ⟨Below.refl _ _⟩⟩
    case round =>
      obtain ⟨k, hk, rfl, HW⟩ := hrel
      by_cases hlt : k < m
      · have hb1 : decide ((k : Int) < (m : Int)) = true := decide_eq_true (by omega)
        have hkt : k < (rs.take m).length := by rw [List.length_take]; omega
        obtain ⟨ad, A6, c6, A7, c7, e1, ⟨s0, s1, s2, s3, s4, s5, s6, s7, s8, s9, s10, s11⟩, p1, p2, p3, p4⟩ := rec_at HV.out.2 HW.out k hkt
        cases e1
        have hBB := HB2.out.trans (HW.out.mono HB2.out.size)
        have hkr : k < rs.length := by omega
        obtain ⟨ad', B6, d6, B7, d7, e1, ⟨t0, t1, t2, t3, t4, t5, t6, t7, t8, t9, t10, t11⟩, q1, q2, q3, q4⟩ := rec_at HB.out hBB k hkr
        cases e1
        have he : (rs.take m)[k] = rs[k] := List.getElem_take
        rw [he] at s0 s1 s2 s3 s4 s5 s6 s7 s8 s9 s10 s11 p1 p2 p3 p4
        have hS : TBX w (ad.add (k * 12)) rs[k] (.slice A6 rs[k].f4.f2.f4.length c6) (.slice A7 rs[k].f5.length c7) (ad'.add (k * 12)) rs[k] (.slice B6 rs[k].f4.f2.f4.length d6) (.slice B7 rs[k].f5.length d7) wr.drew :=
          TBX.next ⟨s0, s1, s2, s3, s4, s5, s6, s7, s8, s9, s10, s11, t0, t1, t2, t3, t4, t5, t6, t7, t8, t9, t10, t11, ⟨hBB⟩⟩ (below_drew (Below.refl _ _))
        have HSM := Aside0.mk (fun W (hW : Below wr.heap.size wr W) => record_Same W A6 A7 c6 c7 rs[k] B6 B7 d6 d7 rs[k] (Kd.C_below p2 hW) p1 (Kd.C_below p4 hW) p3 (Kd.C_below q2 hW) q1 (Kd.C_below q4 hW) q3)
        have hsame : sameRec rs[k] rs[k] = true := (sameRec_iff _ _).2 rfl
        rw [hsame] at HSM
        have HSS := Aside0.mk hS
        have hd1 : decide ((k : Int) < (rs.length : Int)) = true := decide_eq_true (by omega)
        clear s0 s1 s2 s3 s4 s5 s6 s7 s8 s9 s10 s11 t0 t1 t2 t3 t4 t5 t6 t7 t8 t9 t10 t11 p1 p2 p3 p4 q1 q2 q3 q4 he hsame hS hBB
        generalize rs[k] = r at *
        go_upto_region 10 with fail
        refine wp_region_held_drew (S := fun w' => TBX w (ad.add (k * 12)) r (.slice A6 r.f4.f2.f4.length c6) (.slice A7 r.f5.length c7) (ad'.add (k * 12)) r (.slice B6 r.f4.f2.f4.length d6) (.slice B7 r.f5.length d7) w') (by kernel_rfl) HSS.out (fun hHeld => ?_)
        refine takeH (i := 0) (some 48) (v := ?_) rfl rfl (by kernel_rfl) (by kernel_rfl) (by kernel_rfl) (fun _ _ _ h => h) (Or.inl ⟨by kernel_rfl, ?_⟩) (by assumption) ?_
        rotate_left
        · (rintro w' ⟨s0, s1, s2, s3, s4, s5, s6, s7, s8, s9, s10, s11, t0, t1, t2, t3, t4, t5, t6, t7, t8, t9, t10, t11, s⟩; go_simp; first | done | with_reducible rfl)
        simp only [Act.put, List.setIfInBounds_toArray, List.set_cons_zero, List.set_cons_succ]
        refine takeH (i := 1) (some 49) (v := ?_) rfl rfl (by kernel_rfl) (by kernel_rfl) (by kernel_rfl) (fun _ _ _ h => h) (Or.inl ⟨by kernel_rfl, ?_⟩) (by assumption) ?_
        rotate_left
        · (rintro w' ⟨s0, s1, s2, s3, s4, s5, s6, s7, s8, s9, s10, s11, t0, t1, t2, t3, t4, t5, t6, t7, t8, t9, t10, t11, s⟩; go_simp; first | done | with_reducible rfl)
        simp only [Act.put, List.setIfInBounds_toArray, List.set_cons_zero, List.set_cons_succ]
        refine takeH (i := 2) (some 50) (v := ?_) rfl rfl (by kernel_rfl) (by kernel_rfl) (by kernel_rfl) (fun _ _ _ h => h) (Or.inl ⟨by kernel_rfl, ?_⟩) (by assumption) ?_
        rotate_left
        · (rintro w' ⟨s0, s1, s2, s3, s4, s5, s6, s7, s8, s9, s10, s11, t0, t1, t2, t3, t4, t5, t6, t7, t8, t9, t10, t11, s⟩; go_simp; first | done | with_reducible rfl)
        simp only [Act.put, List.setIfInBounds_toArray, List.set_cons_zero, List.set_cons_succ]
        refine takeH (i := 3) (some 51) (v := ?_) rfl rfl (by kernel_rfl) (by kernel_rfl) (by kernel_rfl) (fun _ _ _ h => h) (Or.inl ⟨by kernel_rfl, ?_⟩) (by assumption) ?_
        rotate_left
        · (rintro w' ⟨s0, s1, s2, s3, s4, s5, s6, s7, s8, s9, s10, s11, t0, t1, t2, t3, t4, t5, t6, t7, t8, t9, t10, t11, s⟩; go_simp; first | done | with_reducible rfl)
        simp only [Act.put, List.setIfInBounds_toArray, List.set_cons_zero, List.set_cons_succ]
        refine takeH (i := 4) (some 52) (v := ?_) rfl rfl (by kernel_rfl) (by kernel_rfl) (by kernel_rfl) (fun _ _ _ h => h) (Or.inl ⟨by kernel_rfl, ?_⟩) (by assumption) ?_
        rotate_left
        · (rintro w' ⟨s0, s1, s2, s3, s4, s5, s6, s7, s8, s9, s10, s11, t0, t1, t2, t3, t4, t5, t6, t7, t8, t9, t10, t11, s⟩; go_simp; first | done | with_reducible rfl)
        simp only [Act.put, List.setIfInBounds_toArray, List.set_cons_zero, List.set_cons_succ]
        refine takeH (i := 5) (some 53) (v := ?_) rfl rfl (by kernel_rfl) (by kernel_rfl) (by kernel_rfl) (fun _ _ _ h => h) (Or.inl ⟨by kernel_rfl, ?_⟩) (by assumption) ?_
        rotate_left
        · (rintro w' ⟨s0, s1, s2, s3, s4, s5, s6, s7, s8, s9, s10, s11, t0, t1, t2, t3, t4, t5, t6, t7, t8, t9, t10, t11, s⟩; go_simp; first | done | with_reducible rfl)
        simp only [Act.put, List.setIfInBounds_toArray, List.set_cons_zero, List.set_cons_succ]
        refine takeH (i := 6) (some 54) (v := ?_) rfl rfl (by kernel_rfl) (by kernel_rfl) (by kernel_rfl) (fun _ _ _ h => h) (Or.inl ⟨by kernel_rfl, ?_⟩) (by assumption) ?_
        rotate_left
        · (rintro w' ⟨s0, s1, s2, s3, s4, s5, s6, s7, s8, s9, s10, s11, t0, t1, t2, t3, t4, t5, t6, t7, t8, t9, t10, t11, s⟩; go_simp; first | done | with_reducible rfl)
        simp only [Act.put, List.setIfInBounds_toArray, List.set_cons_zero, List.set_cons_succ]
        refine takeH (i := 7) (some 55) (v := ?_) rfl rfl (by kernel_rfl) (by kernel_rfl) (by kernel_rfl) (fun _ _ _ h => h) (Or.inl ⟨by kernel_rfl, ?_⟩) (by assumption) ?_
        rotate_left
        · (rintro w' ⟨s0, s1, s2, s3, s4, s5, s6, s7, s8, s9, s10, s11, t0, t1, t2, t3, t4, t5, t6, t7, t8, t9, t10, t11, s⟩; go_simp; first | done | with_reducible rfl)
        simp only [Act.put, List.setIfInBounds_toArray, List.set_cons_zero, List.set_cons_succ]
        refine wpAnyH_ready (rs := [8]) (by kernel_rfl) (by simp) ?_
        refine AllReadyH.cons rfl (fun K hK => ?_) AllReadyH.nil
        go_simp
        refine (HSM.out _ (below_drew (Below.refl _ _))).mono ?_; rintro en w6 ⟨rfl, hb⟩
        refine hK.out _ _ ?_ (fun hHeld => ?_)
        · (first | exact TBX.next HSS.out hb | exact TBX.next (TBX.next HSS.out hb) (below_drew (Below.refl _ _)))
        clear hK K
        try simp only [Act.put, List.setIfInBounds_toArray, List.set_cons_zero, List.set_cons_succ]
        refine takeH (i := 9) (some 57) (v := ?_) rfl rfl (by kernel_rfl) (by kernel_rfl) (by kernel_rfl) (fun _ _ _ h => h) (Or.inl ⟨by kernel_rfl, ?_⟩) (by assumption) ?_
        rotate_left
        · (rintro w' ⟨s0, s1, s2, s3, s4, s5, s6, s7, s8, s9, s10, s11, t0, t1, t2, t3, t4, t5, t6, t7, t8, t9, t10, t11, s⟩; go_simp; first | done | with_reducible rfl)
        simp only [Act.put, List.setIfInBounds_toArray, List.set_cons_zero, List.set_cons_succ]
        refine wpAnyH_done (by kernel_rfl) ?_ _
        have hb2 := (below_drew (Below.refl wr.heap.size wr)).trans (hb.mono (below_drew (Below.refl wr.heap.size wr)).size)
        have HW6 := Aside0.mk (HW.out.trans (hb2.mono HW.out.size))
        clear hb hb2 HSS HSM hHeld
        go_wp2_with fail
        have hwk : wrap64 ((k : Int) + 1) = ((k + 1 : Nat) : Int) := by have := HR.out; rw [wrap64_in (by omega) (by omega)]; omega
        go_roundw
        case rel => exact ⟨k + 1, by omega, by first | rfl | (rw [hwk]), HW6⟩
        case measure =>
          try rw [hwk]
          simp only [intOf]
          omega
      · have hb1 : decide ((k : Int) < (m : Int)) = false := decide_eq_false (by omega)
        have HBB := Aside0.mk (HB2.out.trans (HW.out.mono HB2.out.size))
        clear HB HV HW
        go_wp2_with fail
        go_ret
        exact ⟨rfl, HBB.out⟩
end Go.Proofs.YtmeblifbkhpdnaaDoor.K
/- The law RecordTorn, walked. -/
namespace Go.Proofs.YtmeblifbkhpdnaaDoor.K
set_option linter.unusedVariables false
set_option linter.unusedSimpArgs false
open Go.RowKit Go.Proofs.YtmeblifbkhpdnaaDoorW.PrintWords Go.Proofs.YtmeblifbkhpdnaaDoorW.PrintLast Go.Proofs.YtmeblifbkhpdnaaDoorW.PrintMore
attribute [local go_sem] max2_int min2_int
theorem row_told (w : World) (A : Option Addr) (c : Nat) (l : List Sd) (hG : GItem w) (hH : GRec w) (hS : Seeds w A l) (hc : l.length ≤ c) (hm : l.length ≤ maxLen) :
    Calls Tryd.prog 21 #[.slice A l.length c] w fun en w' => ∃ (rs : List Rec) (B : Option Addr) (d : Nat) (A2 : Option Addr) (c2 : Nat) (E : Option Addr) (e2 : Nat), en = .returned (.tuple #[.slice B rs.length d, .slice A2 (jB rs).length c2, .slice E rs.length e2, .bool true]) ∧ RecsOk rs ∧ rs.length ≤ 12 ∧ Rw w (.slice B rs.length d) (.slice A2 (jB rs).length c2) (.slice E rs.length e2) rs w' := by
  refine (row_runs w A c l hG hH hS hc hm).mono ?_
  rintro en w' ⟨rs, s6, s7, s8, rfl, h1, h2, h3⟩
  obtain ⟨B, d, e6⟩ := Kd.R_slice h3.out
  obtain ⟨A2, c2, e7⟩ := Kd.R_slice h3.all
  obtain ⟨E, e2, e8⟩ := Kd.R_slice h3.ends
  rw [endsOf_len] at e8
  subst e6 e7 e8
  exact ⟨rs, B, d, A2, c2, E, e2, rfl, h1, h2, h3⟩
theorem pScan_whole (rs : List Rec) (h : RecsOk rs) : pScan (jB rs) = (rs.take rs.length, (jB (rs.take rs.length)).length, 0) := by
  have h1 := pScan_enc rs [] h
  rw [List.append_nil, pScan_nil] at h1
  rw [List.take_length, h1]
  simp
theorem takeJ_mono (rs : List Rec) (j k : Nat) (h : j ≤ k) : (jB (rs.take j)).length ≤ (jB (rs.take k)).length := by
  have h1 := takeJ_le (rs.take k) j
  rw [List.take_take, Nat.min_eq_left h] at h1
  exact h1
theorem endsOf_rd (rs : List Rec) (j : Nat) (h : j < rs.length) : rd (endsOf rs) (j : Int) = ((jB (rs.take (j + 1))).length : Int) := endsOf_at rs (j + 1) (by omega) (by omega)
set_option maxRecDepth 20000 in
set_option maxHeartbeats 8000000 in
theorem torn_runs (w : World) (A : Option Addr) (c : Nat) (l : List Sd) (at_ : Int) (hG : GItem w) (hH : GRec w) (hS : Seeds w A l) (hc : l.length ≤ c) (hm : l.length ≤ maxLen) :
    Calls Tryd.prog 6 #[.slice A l.length c, .int .i64 at_] w fun en w' => en = .returned (.bool true) ∧ Below w.heap.size w w' := by
  have HG := Aside0.mk hG
  have HH := Aside0.mk hH
  have HWK := Aside0.mk (works_runs w hG hH)
  have HRW := Aside0.mk (fun W (hW : Below w.heap.size w W) => row_told W A c l (hG.below hW) (hH.below hW) (hS.below hW) hc hm)
  clear hG hH hS hc hm
  go_enter Tryd.func6, Tryd.ntmps6
  go_upto_region 4 with (first
    | (go_at_call 13; refine HWK.out.mono ?_; rintro en w1 ⟨rfl, hb⟩; have HB1 := Aside0.mk hb; clear hb)
    | (go_at_call 21; refine (HRW.out _ HB1.out).mono ?_; rintro en w2 ⟨rs, B, d, A2, c2, E, e2, rfl, h1, h2, h3⟩; have HOK := Aside0.mk h1; have HL := Aside0.mk h2; have HR := Aside0.mk (Rw.mk (HB1.out.trans (h3.low.mono HB1.out.size)) (Kd.R_lower h3.out HB1.out.size) (Kd.R_lower h3.all HB1.out.size) (Kd.R_lower h3.ends HB1.out.size)); clear h1 h2 h3))
  clear HWK HRW HB1
  have hjl := jB_len rs HOK.out
  have HTL := Aside0.mk (fun W (b : List Int) (A3 : Option Addr) (m : Nat) (hW : Below w2.heap.size w2 W) (hC : Kd.C (Kd.int .u8) W A3 b.length b) (hc : b.length ≤ c2) (hb : CrcMath.Bytes b) (hl : b.length ≤ (jB rs).length) (hm : m ≤ rs.length) (hp : pScan b = (rs.take m, (jB (rs.take m)).length, 0)) =>
    tells_runs W A3 c2 b B d rs E e2 m 0 (HG.out.below (HR.out.low.trans (hW.mono HR.out.low.size))) (HH.out.below (HR.out.low.trans (hW.mono HR.out.low.size))) hC hc hb (by have := HL.out; omega) (Kd.C_below (Kd.R_reads' HR.out.out).2.2 hW) (by have h := Kd.C_below (Kd.R_reads' HR.out.ends).2.2 hW; rw [endsOf_len] at h; exact h) hm HL.out hp)
  have HT1 := Aside0.mk (HTL.out w2 (jB rs) A2 rs.length (Below.refl _ _) (Kd.R_reads' HR.out.all).2.2 (Kd.R_reads' HR.out.all).2.1 (jB_bytes rs) (Nat.le_refl _) (Nat.le_refl _) (pScan_whole rs HOK.out))
  have hJ : (jB rs).length ≤ 60000 := by have := HL.out; omega
  go_upto_region 6 with (first | (go_at_call 22; refine HT1.out.mono ?_; rintro en w3 ⟨rfl, hb⟩; have HB3 := Aside0.mk hb; clear hb))
  clear HT1 hjl
  obtain ⟨Lz, hLz⟩ : ∃ Lz : Int, Lz = ((jB rs).length : Int) + 1 := ⟨_, rfl⟩
  have hw1 : wrap64 (((jB rs).length : Int) + 1) = Lz := by rw [wrap64_in (by omega) (by omega), hLz]
  have hbr := fun W => bring W at_ Lz (by omega) (by omega)
  have hrg := brg_range at_ Lz (by omega)
  obtain ⟨nn, hnn⟩ : ∃ nn : Nat, brg at_ Lz = (nn : Int) := ⟨(brg at_ Lz).toNat, by omega⟩
  rw [hnn] at hrg
  simp only [hnn] at hbr
  have hnl : nn ≤ (jB rs).length := by omega
  obtain ⟨k, hk, hps, hkn, hkl⟩ := pScan_torn rs nn HOK.out hnl
  obtain ⟨hcut, hCn, hln⟩ := bytes_take .i64 A2 c2 (jB rs) nn hnl (Kd.R_reads' HR.out.all).2.1
  have hT2 := fun W (hW : Below w2.heap.size w2 W) => HTL.out W ((jB rs).take nn) A2 k hW (hCn W (Kd.C_below (Kd.R_reads' HR.out.all).2.2 hW)) (by rw [hln]; have := (Kd.R_reads' HR.out.all).2.1; omega) (fun z hz => jB_bytes rs z (List.mem_of_mem_take hz)) (by rw [hln]; exact hnl) hk hps
  rw [hln] at hT2
  have HBR := Aside0.mk hbr
  have HT2 := Aside0.mk hT2
  have HN := Aside0.mk hnl
  have HK := Aside0.mk hk
  have HKN := Aside0.mk hkn
  have HKL := Aside0.mk hkl
  have HEC := Aside0.mk (Kd.R_reads' HR.out.ends).2.2
  have HLOW := Aside0.mk HR.out.low
  clear hLz hbr hrg hnn hnl hk hps hkn hkl hCn hln hT2 HTL HR hJ
  go_upto_region 8 with (first | (go_at_call 23; refine (HBR.out _).mono ?_; rintro en w6 ⟨rfl, rfl⟩))
  clear HBR
  go_wp2_with fail
  go_loopw [10] (fun s10 wr => ∃ j : Nat, j ≤ k ∧ s10 = .int .i64 (j : Int) ∧ wr = w3) (fun s10 _ => k - (intOf s10).toNat)
  case atStart => exact ⟨0, by omega, rfl, rfl⟩
  case round =>
    obtain ⟨j, hj, rfl, rfl⟩ := hrel
    have hkl := HK.out
    by_cases hjr : j < rs.length
    · have hb1 : decide ((j : Int) < (rs.length : Int)) = true := decide_eq_true (by omega)
      obtain ⟨ad, e1, hcell⟩ := Kd.at_int (Kd.C_below HEC.out HB3.out) (j : Int) (by omega) (by rw [endsOf_len]; omega)
      cases e1
      rw [Int.toNat_natCast, endsOf_rd rs j hjr] at hcell
      have hor : j = k ∨ j + 1 ≤ k := by omega
      obtain ⟨ez, hez⟩ : ∃ ez : Int, ez = ((jB (rs.take (j + 1))).length : Int) := ⟨_, rfl⟩
      rw [← hez] at hcell
      rcases hor with rfl | hjk
      · have hgt : decide (ez ≤ (nn : Int)) = false := decide_eq_false (by have := HKL.out hjr; omega)
        clear hez
        go_wp2_with (first | (go_at_call 22; refine (HT2.out _ HB3.out).mono ?_; rintro en w9 ⟨rfl, hb⟩; have HB9 := Aside0.mk (HB3.out.trans (hb.mono HB3.out.size)); clear hb))
        go_ret
        exact ⟨rfl, HLOW.out.trans (HB9.out.mono HLOW.out.size)⟩
      · have hle : decide (ez ≤ (nn : Int)) = true := decide_eq_true (by have := takeJ_mono rs (j + 1) k hjk; have := HKN.out; omega)
        have hwk : wrap64 ((j : Int) + 1) = ((j + 1 : Nat) : Int) := by have := HL.out; rw [wrap64_in (by omega) (by omega)]; omega
        clear hez
        go_wp2_with fail
        go_roundw
        case rel => exact ⟨j + 1, hjk, by first | rfl | (rw [hwk]), by trivial⟩
        case measure =>
          try rw [hwk]
          simp only [intOf]
          omega
    · have hb1 : decide ((j : Int) < (rs.length : Int)) = false := decide_eq_false (by omega)
      obtain rfl : j = k := by omega
      go_wp2_with (first | (go_at_call 22; refine (HT2.out _ HB3.out).mono ?_; rintro en w9 ⟨rfl, hb⟩; have HB9 := Aside0.mk (HB3.out.trans (hb.mono HB3.out.size)); clear hb))
      go_ret
      exact ⟨rfl, HLOW.out.trans (HB9.out.mono HLOW.out.size)⟩
end Go.Proofs.YtmeblifbkhpdnaaDoor.K
/- The law RecordTurned, walked. -/
namespace Go.Proofs.YtmeblifbkhpdnaaDoor.K
set_option linter.unusedVariables false
set_option linter.unusedSimpArgs false
open Go.RowKit Go.Proofs.YtmeblifbkhpdnaaDoorW.PrintWords Go.Proofs.YtmeblifbkhpdnaaDoorW.PrintLast Go.Proofs.YtmeblifbkhpdnaaDoorW.PrintMore
attribute [local go_sem] max2_int min2_int
theorem xor8 (a b : Int) (ha : 0 ≤ a ∧ a < 256) (hb : 0 ≤ b ∧ b < 256) : Go.bits .xor .u8 a b = ((a.toNat ^^^ b.toNat : Nat) : Int) ∧ a.toNat ^^^ b.toNat < 256 := by
  obtain ⟨a, rfl⟩ := Int.eq_ofNat_of_zero_le ha.1
  obtain ⟨b, rfl⟩ := Int.eq_ofNat_of_zero_le hb.1
  have ha' : a < 2 ^ 8 := by omega
  have hb' : b < 2 ^ 8 := by omega
  have h := Nat.xor_lt_two_pow ha' hb'
  have e : (BitVec.ofNat 8 a ^^^ BitVec.ofNat 8 b).toNat = a ^^^ b := by
    rw [BitVec.toNat_xor, BitVec.toNat_ofNat, BitVec.toNat_ofNat, Nat.mod_eq_of_lt ha', Nat.mod_eq_of_lt hb']
  refine ⟨?_, h⟩
  show IntKind.u8.wrap (((BitVec.ofInt 8 (a : Int) ^^^ BitVec.ofInt 8 (b : Int)).toNat : Nat) : Int) = _
  rw [BitVec.ofInt_natCast, BitVec.ofInt_natCast, e, IntKind.wrap_u8, Int.toNat_natCast, Int.toNat_natCast]
  exact Int.emod_eq_of_lt (Int.natCast_nonneg _) (Int.ofNat_lt.2 h)
theorem xor8_byte (a b : Int) (ha : 0 ≤ a ∧ a < 256) (hb : 0 ≤ b ∧ b < 256) : 0 ≤ Go.bits .xor .u8 a b ∧ Go.bits .xor .u8 a b < 256 := by
  have := xor8 a b ha hb
  omega
theorem xor8_ne (a b : Int) (ha : 0 ≤ a ∧ a < 256) (hb : 0 ≤ b ∧ b < 256) (hne : b ≠ 0) : a ≠ Go.bits .xor .u8 a b := by
  intro h
  rw [(xor8 a b ha hb).1] at h
  have h2 : a.toNat ^^^ b.toNat = a.toNat := by omega
  have h3 : a.toNat ^^^ (a.toNat ^^^ b.toNat) = a.toNat ^^^ a.toNat := by rw [h2]
  rw [← Nat.xor_assoc, Nat.xor_self, Nat.zero_xor] at h3
  omega
set_option maxRecDepth 20000 in
set_option maxHeartbeats 8000000 in
theorem turned_runs (w : World) (A : Option Addr) (c : Nat) (l : List Sd) (at_ bt : Int) (hG : GItem w) (hH : GRec w) (hS : Seeds w A l) (hc : l.length ≤ c) (hm : l.length ≤ maxLen) (hbt : 0 ≤ bt ∧ bt < 256) :
    Calls Tryd.prog 7 #[.slice A l.length c, .int .i64 at_, .int .u8 bt] w fun en w' => en = .returned (.bool true) ∧ Below w.heap.size w w' := by
  have HG := Aside0.mk hG
  have HH := Aside0.mk hH
  have HBT := Aside0.mk hbt
  have HWK := Aside0.mk (fun W (hW : Below w.heap.size w W) => works_runs W (hG.below hW) (hH.below hW))
  have HRW := Aside0.mk (row_told w A c l hG hH hS hc hm)
  clear hG hH hS hc hm hbt
  go_enter Tryd.func7, Tryd.ntmps7
  go_upto_region 4 with (first
    | (go_at_call 21; refine HRW.out.mono ?_; rintro en w2 ⟨rs, B, d, A2, c2, E, e2, rfl, h1, h2, h3⟩; have HOK := Aside0.mk h1; have HL := Aside0.mk h2; have HR := Aside0.mk h3; clear h1 h2 h3))
  clear HRW
  by_cases h0 : (jB rs).length = 0 ∨ bt = 0
  · have HLOW := Aside0.mk HR.out.low
    clear HR
    rcases h0 with h0 | h0
    · have hz : (((jB rs).length : Int) == 0) = true := by rw [h0]; rfl
      go_wp2_with (first | (go_at_call 13; refine (HWK.out _ HLOW.out).mono ?_; rintro en w4 ⟨rfl, hb⟩; have HB4 := Aside0.mk (HLOW.out.trans (hb.mono HLOW.out.size)); clear hb))
      go_ret
      exact ⟨rfl, HB4.out⟩
    · subst h0
      by_cases hz0 : (jB rs).length = 0
      · have hz : (((jB rs).length : Int) == 0) = true := by rw [hz0]; rfl
        go_wp2_with (first | (go_at_call 13; refine (HWK.out _ HLOW.out).mono ?_; rintro en w4 ⟨rfl, hb⟩; have HB4 := Aside0.mk (HLOW.out.trans (hb.mono HLOW.out.size)); clear hb))
        go_ret
        exact ⟨rfl, HB4.out⟩
      · have hz : (((jB rs).length : Int) == 0) = false := beq_eq_false_iff_ne.2 (by omega)
        go_wp2_with (first | (go_at_call 13; refine (HWK.out _ HLOW.out).mono ?_; rintro en w4 ⟨rfl, hb⟩; have HB4 := Aside0.mk (HLOW.out.trans (hb.mono HLOW.out.size)); clear hb))
        go_ret
        exact ⟨rfl, HB4.out⟩
  · have hz : (((jB rs).length : Int) == 0) = false := beq_eq_false_iff_ne.2 (by omega)
    have hzb : (bt == 0) = false := beq_eq_false_iff_ne.2 (by omega)
    have hjl := jB_len rs HOK.out
    obtain ⟨g, c3, hform, hg0, hg1, _⟩ := Kd.R_form HR.out.all (by omega)
    injection hform with ea en ec
    subst ea ec
    have hbr := fun W => bring W at_ ((jB rs).length : Int) (by omega) (by have := HL.out; omega)
    have hrg := brg_range at_ ((jB rs).length : Int) (by omega)
    obtain ⟨nn, hnn⟩ : ∃ nn : Nat, brg at_ ((jB rs).length : Int) = (nn : Int) := ⟨(brg at_ ((jB rs).length : Int)).toNat, by omega⟩
    rw [hnn] at hrg
    simp only [hnn] at hbr
    have hnl : nn < (jB rs).length := by omega
    have hby : 0 ≤ (jB rs)[nn] ∧ (jB rs)[nn] < 256 := jB_bytes rs _ (List.getElem_mem hnl)
    have hrd : rd (jB rs) (nn : Int) = (jB rs)[nn] := rd_at (jB rs) nn hnl
    obtain ⟨k, hk, hps, hkn, hkl⟩ := pScan_turned rs nn (Go.bits .xor .u8 (jB rs)[nn] bt) HOK.out hnl (xor8_byte _ _ hby HBT.out) (xor8_ne _ _ hby HBT.out (by omega))
    have hset : CrcMath.Bytes ((jB rs).set nn (Go.bits .xor .u8 (jB rs)[nn] bt)) := bytes_set (jB_bytes rs) _ _ (xor8_byte _ _ hby HBT.out)
    obtain ⟨hcell, hfro⟩ := Kd.R_celln 0 HR.out.all (nn : Int) (by omega) (by omega)
    obtain ⟨hO5, hg5⟩ := Kd.R_putg HR.out.all (nn : Int) (Go.bits .xor .u8 (jB rs)[nn] bt)
    rw [Int.toNat_natCast] at hcell hfro hO5 hg5
    have hrd2 : rdOf 0 (jB rs) (nn : Int) = (jB rs)[nn] := hrd
    rw [hrd2] at hcell
    have hd1 : decide ((nn : Int) < ((jB rs).length : Int)) = true := decide_eq_true (by omega)
    have HOUT5 := Aside0.mk (Kd.R_over HR.out.out HR.out.all (by decide) hg5)
    have HEND5 := Aside0.mk (Kd.R_over HR.out.ends HR.out.all (by decide) hg5)
    have HB5 := Aside0.mk (below_grownG HR.out.low hg5 hg0)
    have HO5 := Aside0.mk hO5
    have HBR := Aside0.mk hbr
    have HPS := Aside0.mk hps
    have HK := Aside0.mk hk
    have HKN := Aside0.mk hkn
    have HKL := Aside0.mk hkl
    have HSET := Aside0.mk hset
    have HJL := Aside0.mk hjl
    generalize hcb : Go.bits .xor .u8 (jB rs)[nn] bt = cb at *
    generalize (jB rs)[nn] = ob at *
    clear hbr hrg hnn hby hrd hrd2 hk hps hkn hkl hset hO5 hg5 hg0 hg1 hjl h0 HR
    go_upto_region 8 with (first | (go_at_call 23; refine (HBR.out _).mono ?_; rintro en w6 ⟨rfl, rfl⟩))
    clear hcell hfro hcb HBR hnl hd1
    have HR5' := Aside0.mk (Kd.R_reads' HO5.out).2
    have hT := tells_runs (w2.setCell ⟨g, nn, none⟩ (.int .u8 cb)) (some ⟨g, 0, none⟩) c2 ((jB rs).set nn cb) B d rs E e2 k 150 (HG.out.below HB5.out) (HH.out.below HB5.out) HR5'.out.2 (by have h := HR5'.out.1; rw [List.length_set]; exact h) HSET.out (by rw [List.length_set]; have := HJL.out; have := HL.out; omega) (Kd.R_reads' HOUT5.out).2.2 (by have h := (Kd.R_reads' HEND5.out).2.2; rw [endsOf_len] at h; exact h) (Nat.le_of_lt HK.out) HL.out HPS.out
    rw [List.length_set] at hT
    have HT := Aside0.mk hT
    have HEC := Aside0.mk (Kd.R_reads' HEND5.out).2.2
    clear hT HR5' HSET HPS HOUT5 HEND5 HO5 HJL
    generalize w2.setCell ⟨g, nn, none⟩ (.int .u8 cb) = w5 at *
    go_wp2_with fail
    go_loopw [12] (fun s12 wr => ∃ j : Nat, j ≤ k ∧ s12 = .int .i64 (j : Int) ∧ wr = w5) (fun s12 _ => k - (intOf s12).toNat)
    case atStart => exact ⟨0, by omega, rfl, rfl⟩
    case round =>
      obtain ⟨j, hj, rfl, rfl⟩ := hrel
      have hjr : j < rs.length := by have := HK.out; omega
      have hb1 : decide ((j : Int) < (rs.length : Int)) = true := decide_eq_true (by omega)
      obtain ⟨ad, e1, hcell⟩ := Kd.at_int HEC.out (j : Int) (by omega) (by rw [endsOf_len]; omega)
      cases e1
      rw [Int.toNat_natCast, endsOf_rd rs j hjr] at hcell
      have hor : j = k ∨ j + 1 ≤ k := by omega
      obtain ⟨ez, hez⟩ : ∃ ez : Int, ez = ((jB (rs.take (j + 1))).length : Int) := ⟨_, rfl⟩
      rw [← hez] at hcell
      rcases hor with rfl | hjk
      · have hgt : decide (ez ≤ (nn : Int)) = false := decide_eq_false (by have := HKL.out; omega)
        clear hez
        go_wp2_with (first
          | (go_at_call 22; refine HT.out.mono ?_; rintro en w9 ⟨rfl, hb⟩; have HB9 := Aside0.mk (HB5.out.trans (hb.mono HB5.out.size)); clear hb)
          | (go_at_call 13; refine (HWK.out _ HB9.out).mono ?_; rintro en w10 ⟨rfl, hb⟩; have HB10 := Aside0.mk (HB9.out.trans (hb.mono HB9.out.size)); clear hb))
        go_ret
        exact ⟨rfl, HB10.out⟩
      · have hle : decide (ez ≤ (nn : Int)) = true := decide_eq_true (by have := takeJ_mono rs (j + 1) k hjk; have := HKN.out; omega)
        have hwk : wrap64 ((j : Int) + 1) = ((j + 1 : Nat) : Int) := by have := HL.out; rw [wrap64_in (by omega) (by omega)]; omega
        clear hez
        go_wp2_with fail
        go_roundw
        case rel => exact ⟨j + 1, hjk, by first | rfl | (rw [hwk]), by trivial⟩
        case measure =>
          try rw [hwk]
          simp only [intOf]
          omega
end Go.Proofs.YtmeblifbkhpdnaaDoor.K
/- What the rows' listed variables give; words of the laws' frames. -/
namespace Go.Proofs.YtmeblifbkhpdnaaDoor.Lw
open Go.ChangeShapes Go.WideShapes Go.ChangeAt Go.RowKit
open Go.ChangeMaps (open_string shut_string)
set_option linter.unusedVariables false
theorem own : ownKnob Tryd.prog.godebug = none := by kernel_rfl
theorem laidOut : laidOutB Tryd.prog = true := by kernel_rfl
abbrev laid : List (String × DataW Unit) := [("gimbal/item.kinds", Rows.laid_gimbal_item_kinds), ("gimbal/record.kinds", Rows.laid_gimbal_record_kinds)]
theorem gItem : Tryd.prog.globalNamed "gimbal/item.kinds" = some 1 := by kernel_rfl
theorem gRec : Tryd.prog.globalNamed "gimbal/record.kinds" = some 0 := by kernel_rfl
theorem tItem : (Tryd.prog.globals[1]?).map (·.type) = some 125 := by kernel_rfl
theorem tRec : (Tryd.prog.globals[0]?).map (·.type) = some 104 := by kernel_rfl
/-- What the condition gives the walks. -/
theorem of_laid {W : World} (h : laidMetH Tryd.prog laid W) : K.GItem W ∧ K.GRec W := by
  rw [MakeChecks.laidMetH_plain _ _ _ (by kernel_rfl)] at h
  have h1 := Lib.tabIs_of_head (k := .i64) (zs := K.iTab) gItem tItem Tryd.underlying125 Tryd.underlying3 (by kernel_rfl) (by kernel_rfl) h
  have h2 := Lib.tabIs_of_head (k := .i64) (zs := K.rTab) gRec tRec Tryd.underlying104 Tryd.underlying3 (by kernel_rfl) (by kernel_rfl) (laidMet.tail h)
  refine ⟨fun j hj => ?_, fun j hj => ?_⟩
  · rw [h1.cell gItem j hj]; simp [Go.Proofs.YtmeblifbkhpdnaaDoorW.PrintWords.rd]
  · rw [h2.cell gRec j hj]; simp [Go.Proofs.YtmeblifbkhpdnaaDoorW.PrintWords.rd]
/-- The door's own heap meets the condition. -/
theorem door_met (os : Os) (args : Array Value) : laidMetH Tryd.prog laid ((World.doorLaid Tryd.prog 400 os).forCall (fun _ _ => 0) ⟨#[], args, []⟩).memory :=
  laidMetH_of_parts3 (fuel := 8) (laidMet_of_run' 8 (by kernel_rfl) (by kernel_rfl)) (by kernel_rfl) (by kernel_rfl)
def IsRow (k : IntKind) (w : World) (a : Option Addr) (len cap : Nat) (zs : List Int) : Prop :=
  (a = none ∧ len = 0 ∧ cap = 0 ∧ zs = []) ∨
  ∃ x, a = some x ∧ len ≤ cap ∧ cap ≤ maxLen ∧ zs.length = cap ∧ (∀ i, i < zs.length → w.cell? (x.add i) = some (.int k (zs.getD i 0))) ∧ ∀ n ∈ zs, (Lit.int k n).wf = true
theorem bytes_of_wf {l : List Int} (h : ∀ x ∈ l, (Lit.int .u8 x).wf = true) : CrcMath.Bytes l := by
  intro c hc
  have := h c hc
  have e0 : IntKind.u8.min = 0 := by decide
  have e1 : IntKind.u8.max = 255 := by decide
  simp [Lit.wf, e0, e1] at this
  omega
end Go.Proofs.YtmeblifbkhpdnaaDoor.Lw
/- A row of seeds that came in, laid open. -/
namespace Go.Proofs.YtmeblifbkhpdnaaDoor.Lw
open Go.ChangeShapes Go.WideShapes Go.ChangeAt Go.RowKit
set_option linter.unusedVariables false
section
variable {H : Type} {enc : TypeId × Value → H} {P : Program} {w : World} {base : Nat} {spare : Nat → Bool} {held : Bool}
theorem trod_struct5 {t : TypeId} {f0 f1 f2 f3 f4 : Field} {fuel : Nat} {cs : List Value} {x : DataW H × List MemPlace} (ht : P.underlying t = some (.struct #[f0, f1, f2, f3, f4])) (h : DataW.trod enc P w base spare held fuel t cs = some x) :
    ∃ y0 y1 y2 y3 y4 n, cs.length = P.cellsOf t ∧ DataW.trod enc P w base spare held n f0.type ((cs.drop f0.offset).take (P.cellsOf f0.type)) = some y0 ∧
      DataW.trod enc P w base spare held n f1.type ((cs.drop f1.offset).take (P.cellsOf f1.type)) = some y1 ∧ DataW.trod enc P w base spare held n f2.type ((cs.drop f2.offset).take (P.cellsOf f2.type)) = some y2 ∧
      DataW.trod enc P w base spare held n f3.type ((cs.drop f3.offset).take (P.cellsOf f3.type)) = some y3 ∧ DataW.trod enc P w base spare held n f4.type ((cs.drop f4.offset).take (P.cellsOf f4.type)) = some y4 := by
  obtain ⟨xs, n, _, rfl, hl, hlen, hf⟩ := DataW.trod_struct ht h
  match xs, hlen with
  | [y0, y1, y2, y3, y4], _ => exact ⟨y0, y1, y2, y3, y4, n, hl, by simpa using hf 0 f0 rfl, by simpa using hf 1 f1 rfl, by simpa using hf 2 f2 rfl, by simpa using hf 3 f3 rfl, by simpa using hf 4 f4 rfl⟩
end
set_option maxRecDepth 100000 in
theorem seed_of {H : Type} {enc : TypeId × Value → H} {W : World} {sp : Nat → Bool} {held : Bool} {fuel : Nat} {cs : List Value} {x : DataW H × List MemPlace} (h : DataW.trod enc Tryd.prog W 0 sp held fuel 84 cs = some x) :
    ∃ s : K.Sd, cs = [.int .i64 s.k, .int .i64 s.v, .int .i64 s.l, .int .i64 s.o, .int .i64 s.n] := by
  obtain ⟨y0, y1, y2, y3, y4, n, hl, h0, h1, h2, h3, h4⟩ := trod_struct5 Tryd.underlying84 h
  have ci : Tryd.prog.cellsOf 3 = 1 := by kernel_rfl
  have c5 : Tryd.prog.cellsOf 84 = 5 := by kernel_rfl
  rw [c5] at hl
  match cs, hl with
  | [v0, v1, v2, v3, v4], _ =>
    obtain ⟨z0, e0, _, _⟩ := DataW.trod_int Tryd.underlying3 h0
    obtain ⟨z1, e1, _, _⟩ := DataW.trod_int Tryd.underlying3 h1
    obtain ⟨z2, e2, _, _⟩ := DataW.trod_int Tryd.underlying3 h2
    obtain ⟨z3, e3, _, _⟩ := DataW.trod_int Tryd.underlying3 h3
    obtain ⟨z4, e4, _, _⟩ := DataW.trod_int Tryd.underlying3 h4
    simp only [ci] at e0 e1 e2 e3 e4
    simp at e0 e1 e2 e3 e4
    exact ⟨⟨z0, z1, z2, z3, z4⟩, by rw [e0, e1, e2, e3, e4]⟩
set_option maxRecDepth 100000 in
theorem seeds_of {H : Type} {enc : TypeId × Value → H} {W : World} {sp : Nat → Bool} {held : Bool} {fuel : Nat} {a : Option Addr} {len cap : Nat} {x : DataW H × List MemPlace} (h : DataW.trod enc Tryd.prog W 0 sp held fuel 45 [.slice a len cap] = some x) :
    ∃ l : List K.Sd, l.length = len ∧ K.Seeds W a l ∧ len ≤ cap ∧ len ≤ maxLen := by
  have c5 : Tryd.prog.cellsOf 84 = 5 := by kernel_rfl
  rcases Go.Deep.open_slice Tryd.underlying45 h with ⟨hcs, _⟩ | ⟨ad, l, c, m, n, D, Pl, hcs, _, hl, hm, hmm, _, hx⟩
  · injection hcs with hcs _
    injection hcs with h1 h2 h3
    subst h1 h2 h3
    exact ⟨[], rfl, fun i hi => absurd hi (Nat.not_lt_zero _), Nat.le_refl _, Nat.zero_le _⟩
  · injection hcs with hcs _
    injection hcs with h1 h2 h3
    subst h1 h2 h3
    rw [c5] at hx
    have hlm : len ≤ m := by rw [hmm]; split <;> omega
    have each : ∀ i, i < len → ∃ s : K.Sd, W.cells? 0 (ad.add (i * 5)) 5 = some [.int .i64 s.k, .int .i64 s.v, .int .i64 s.l, .int .i64 s.o, .int .i64 s.n] := by
      intro i hi
      obtain ⟨cs', hc, ht⟩ := hx i (by omega)
      obtain ⟨s, rfl⟩ := seed_of ht
      exact ⟨s, hc⟩
    have all : ∀ k, k ≤ len → ∃ l : List K.Sd, l.length = k ∧ ∀ (i : Nat) (h : i < l.length), W.cells? 0 (ad.add (i * 5)) 5 = some [.int .i64 l[i].k, .int .i64 l[i].v, .int .i64 l[i].l, .int .i64 l[i].o, .int .i64 l[i].n] := by
      intro k
      induction k with
      | zero => intro _; exact ⟨[], rfl, fun i hi => absurd hi (Nat.not_lt_zero _)⟩
      | succ k ih =>
        intro hk
        obtain ⟨l, hl, hh⟩ := ih (by omega)
        obtain ⟨s, hs⟩ := each k (by omega)
        refine ⟨l ++ [s], by rw [List.length_append, hl]; rfl, fun i hi => ?_⟩
        rw [List.length_append, List.length_singleton] at hi
        by_cases hik : i < l.length
        · rw [List.getElem_append_left hik]
          exact hh i hik
        · have e : i = k := by omega
          subst e
          have hge : (l ++ [s])[i] = s := by rw [List.getElem_append_right (by omega)]; simp
          rw [hge]
          exact hs
    obtain ⟨l, hl2, hh⟩ := all len (Nat.le_refl _)
    refine ⟨l, hl2, fun i hi => ?_, hl, Nat.le_trans hl hm⟩
    obtain ⟨_, _, hc⟩ := World.cells?_some (hh i hi)
    have hj : ∀ j, j < 5 → W.cell? (ad.add (i * 5 + j)) = [Value.int .i64 l[i].k, .int .i64 l[i].v, .int .i64 l[i].l, .int .i64 l[i].o, .int .i64 l[i].n][j]? := by
      intro j hj
      rw [← hc j hj]
      rw [Go.Deep.add_add]
    exact ⟨ad, rfl, by simpa using hj 0 (by omega), by rw [← Go.Proofs.YtmeblifbkhpdnaaDoorW.PrintWords.add_field _ _ 1 (by omega)]; exact hj 1 (by omega), by rw [← Go.Proofs.YtmeblifbkhpdnaaDoorW.PrintWords.add_field _ _ 2 (by omega)]; exact hj 2 (by omega), by rw [← Go.Proofs.YtmeblifbkhpdnaaDoorW.PrintWords.add_field _ _ 3 (by omega)]; exact hj 3 (by omega), by rw [← Go.Proofs.YtmeblifbkhpdnaaDoorW.PrintWords.add_field _ _ 4 (by omega)]; exact hj 4 (by omega)⟩
end Go.Proofs.YtmeblifbkhpdnaaDoor.Lw
/- Words of RecordTurned's frame. -/
namespace Go.Proofs.YtmeblifbkhpdnaaDoor.Lw
theorem byte_of_wf {c : Int} (h : (Lit.int .u8 c).wf = true) : 0 ≤ c ∧ c < 256 := by
  have h1 := bytes_of_wf (l := [c]) (fun x hx => by rw [List.mem_singleton] at hx; rw [hx]; exact h)
  exact h1 c (by simp)
end Go.Proofs.YtmeblifbkhpdnaaDoor.Lw
/- gimbal/gimballaw14.RecordTurned: whatever the arguments, the law returns true, and each argument reads behind the call as it read before; the tied card. Conditions: none beyond the row's own (the two tables read as the program's text lays them). -/
namespace Go.Proofs.YtmeblifbkhpdnaaDoor.recordTurned
open Go.ChangeShapes Go.WideShapes Go.ChangeAt Go.RowKit
open Go.ChangeMaps (open_string shut_string)
set_option linter.unusedVariables false
set_option maxRecDepth 100000 in
theorem lifted (os : Os) (started : os.Started) (H : Type) (enc : TypeId × Value → H) :
    ReturnsInHanded {} Tryd.checked os 7 .any (fun w args => (Rows.recordTurnedSpec.pre enc Tryd.prog Tryd.f7 [] false w args ∧ laidMetH Tryd.prog Lw.laid w) ∧ sizedMet enc Tryd.prog Tryd.f7 (OpenSpec.ofChange Rows.recordTurnedSpec) false w args)
      (Rows.recordTurnedSpec.post enc Tryd.prog Tryd.f7 false true false false) := by
  refine returnsInHanded_of_change_and (C := Tryd.checked) (X := fun w _ => laidMetH Tryd.prog Lw.laid w) (fun _ _ _ hh h => h.of_heap hh) Lw.own started (by kernel_rfl) Tryd.func7
    (ChangeSpec.witness_shaped (enc := enc) (C := Tryd.checked) (os := os) (X := fun w _ => laidMetH Tryd.prog Lw.laid w) false (World.doorLaid Tryd.prog 400 os) #[.slice none 0 0, .int .i64 0, .int .u8 0] 8 rfl (World.shaped_of_RefB (by kernel_rfl) (by kernel_rfl)) (by kernel_rfl) (by kernel_rfl) (by kernel_rfl) (Lw.door_met os _)) ?_
  intro W base args ds gs before hval0 hW hcnd hsz0 hL _
  have hval : ∀ (j : Nat) t v, Tryd.f7.params[j]? = some t → args[j]? = some v → Value.okWide Tryd.prog W .any base t v := hval0
  have hW' := hW
  obtain ⟨p, q, hA0, hV, rfl, hfz, hnd⟩ := hW
  have hA : DataW.TrodAll enc Tryd.prog W 0 (fun _ => true) true Tryd.f7.params.toList args.toList ds p := hA0
  rw [Tryd.params7] at hA hval
  obtain ⟨v0, vs0, d0, ds0, p0, q0, hargs, rfl, rfl, h0, r0⟩ := trodAll_cons hA
  obtain ⟨v1, vs1, d1, ds1, p1, q1, rfl, rfl, rfl, h1, r1⟩ := trodAll_cons r0
  obtain ⟨v2, vs2, d2, ds2, p2, q2, rfl, rfl, rfl, h2, r2⟩ := trodAll_cons r1
  obtain ⟨rfl, rfl, rfl⟩ := trodAll_nil r2
  obtain rfl : args = #[v0, v1, v2] := by cases args; simp_all
  obtain ⟨rfl, rfl⟩ := trodVars_none hV
  obtain ⟨a0, len0, cap0, rfl⟩ := okWide_slice Tryd.underlying45 (hval 0 45 v0 rfl rfl)
  have k0 := h0
  have lt0 : ∀ x ∈ p0, x.block < W.heap.size := by obtain ⟨m, hm⟩ := k0; exact DataW.trod_lt m _ _ _ hm
  obtain ⟨a1, rfl, rfl, rfl, w1⟩ := open_int Tryd.underlying3 (hval 1 3 v1 rfl rfl) h1
  obtain ⟨a2, rfl, rfl, rfl, w2⟩ := open_int Tryd.underlying5 (hval 2 5 v2 rfl rfl) h2
  obtain ⟨fuel, hf⟩ := h0
  obtain ⟨l0, rfl, hS, hc0, hm0⟩ := Lw.seeds_of hf
  obtain ⟨hGI, hGR⟩ := Lw.of_laid hL
  clear hA0 hval0 hsz0
  refine (K.turned_runs W a0 cap0 l0 a1 a2 hGI hGR hS hc0 hm0 (Lw.byte_of_wf w2)).mono fun e W' ⟨he, bel⟩ => ?_
  subst he
  exact ⟨_, rfl, _, _, _, [], _, [], hW', trodAll_mk1 (shut_bool Tryd.underlying4 _), (trodAll_cons_mk (Below.trod Lw.laidOut (by kernel_rfl) (of_decide_eq_true (by kernel_rfl)) k0 bel lt0) (trodAll_cons_mk (shut_int Tryd.underlying3 w1) (trodAll_cons_mk (shut_int Tryd.underlying5 w2) trodAll_mk0))), rfl, bel.frame _, fun h => by cases h⟩
theorem over : Rows.recordTurnedRow.holds Tryd.pinned (OpenSpec.ofChange Rows.recordTurnedSpec) :=
  OpenClaim.holds_of_wide 7 Tryd.f7 rfl rfl rfl rfl rfl rfl rfl ⟨rfl, rfl, rfl, rfl, rfl⟩ rfl rfl rfl rfl rfl (by kernel_rfl) Tryd.func7 (by kernel_rfl)
    (of_decide_eq_true (by kernel_rfl)) (by unfold Func.isWrapper; first | (rw [if_pos (by decide +kernel)]; kernel_rfl) | (rw [if_neg (by decide +kernel)]; exact ⟨rfl, rfl⟩))
    (fun os started H enc _ => lifted os started H enc)
theorem card : Rows.RecordTurnedCardSaid :=
  Claim7.holds_tied_plain_at .later [] [.data, .data] true (true, "ac748d212d0d79aa82e68b2273a819c1736f66a288add7512e8694986e20d5c1") false
    over (fun _ h => by cases h) (by kernel_rfl) (fun _ h => by cases h) recordTurned_row_tie rfl ⟨rfl, rfl⟩ (by kernel_rfl) rfl
    (fun f fn hf hfn => by
      obtain rfl : f = 7 := Option.some.inj ((show Tryd.prog.funcNamed "gimbal/gimballaw14.RecordTurned" = some 7 by kernel_rfl).symm.trans hf) |>.symm
      obtain rfl : fn = Tryd.f7 := (Option.some.inj (Tryd.func7.symm.trans hfn)).symm
      exact ⟨by kernel_rfl, fun j t ht => by
        rw [Tryd.params7] at ht
        have hm : t ∈ [45, 3, 5] := by simpa using Array.mem_of_getElem? ht
        have hall : ([45, 3, 5].all fun u => !Tryd.prog.wantsStandIn u) = true := by kernel_rfl
        exact (show Tryd.prog.wantsStandIn t = false by simpa using List.all_eq_true.1 hall t hm)⟩)
    (by kernel_rfl)
end Go.Proofs.YtmeblifbkhpdnaaDoor.recordTurned
namespace Go.Proofs.YtmeblifbkhpdnaaDoor
/-- The tied card, under a short name, for the claim. -/
theorem recordTurned_holds : Rows.RecordTurnedCardSaid := recordTurned.card
#print axioms recordTurned_holds
end Go.Proofs.YtmeblifbkhpdnaaDoor
