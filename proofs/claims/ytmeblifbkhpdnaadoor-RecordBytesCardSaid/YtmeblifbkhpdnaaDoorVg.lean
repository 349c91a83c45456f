/- gimbal/gimballaw14.RecordBytes: whatever the arguments, the law returns true, and each argument reads behind the call as it read before; the tied card. Conditions: none beyond the row's own (the two tables read as the program's text lays them). -/
import Derived.Test.YtmeblifbkhpdnaaDoorTie
import Derived.Test.YtmeblifbkhpdnaaDoorCards
import Derived.Test.YtmeblifbkhpdnaaDoorVf
import Derived.WalkKit
import Derived.ProofKit
import Derived.OpenShut
import Derived.ShutString
import Derived.ChangeOld
import Derived.Below
import Derived.SizedLaws
import Derived.LaidMore
import Derived.Stop.Joined
import Derived.Stop.LaidErr
import Derived.Lib.LaidTab
import Derived.SevenTiedAt
import Derived.Test.YtmeblifbkhpdnaaDoorVa
import Derived.Deep.Slices
namespace Go.Proofs.YtmeblifbkhpdnaaDoor.Lw
open Go.ChangeShapes Go.WideShapes Go.ChangeAt Go.RowKit
open Go.ChangeMaps (open_string shut_string)
set_option linter.unusedVariables false
theorem own : ownKnob Tryd.prog.godebug = none := by kernel_rfl
theorem laidOut : laidOutB Tryd.prog = true := by kernel_rfl
abbrev laid : List (String × DataW Unit) := [("gimbal/item.kinds", Rows.laid_gimbal_item_kinds), ("gimbal/record.kinds", Rows.laid_gimbal_record_kinds)]
theorem gItem : Tryd.prog.globalNamed "gimbal/item.kinds" = some 1 := by kernel_rfl
theorem gRec : Tryd.prog.globalNamed "gimbal/record.kinds" = some 0 := by kernel_rfl
theorem tItem : (Tryd.prog.globals[1]?).map (·.type) = some 125 := by kernel_rfl
theorem tRec : (Tryd.prog.globals[0]?).map (·.type) = some 104 := by kernel_rfl
theorem of_laid {W : World} (h : laidMetH Tryd.prog laid W) : K.GItem W ∧ K.GRec W := by
  rw [MakeChecks.laidMetH_plain _ _ _ (by kernel_rfl)] at h
  have h1 := Lib.tabIs_of_head (k := .i64) (zs := K.iTab) gItem tItem Tryd.underlying125 Tryd.underlying3 (by kernel_rfl) (by kernel_rfl) h
  have h2 := Lib.tabIs_of_head (k := .i64) (zs := K.rTab) gRec tRec Tryd.underlying104 Tryd.underlying3 (by kernel_rfl) (by kernel_rfl) (laidMet.tail h)
  refine ⟨fun j hj => ?_, fun j hj => ?_⟩
  · rw [h1.cell gItem j hj]; simp [Go.Proofs.YtmeblifbkhpdnaaDoorW.PrintWords.rd]
  · rw [h2.cell gRec j hj]; simp [Go.Proofs.YtmeblifbkhpdnaaDoorW.PrintWords.rd]
theorem door_met (os : Os) (args : Array Value) : laidMetH Tryd.prog laid ((World.doorLaid Tryd.prog 400 os).forCall (fun _ _ => 0) ⟨#[], args, []⟩).memory :=
  laidMetH_of_parts3 (fuel := 8) (laidMet_of_run' 8 (by kernel_rfl) (by kernel_rfl)) (by kernel_rfl) (by kernel_rfl)
end Go.Proofs.YtmeblifbkhpdnaaDoor.Lw
namespace Go.Proofs.YtmeblifbkhpdnaaDoor.Lw
open Go.ChangeShapes Go.WideShapes Go.ChangeAt Go.RowKit Go.Proofs.YtmeblifbkhpdnaaDoorW.PrintWords
set_option linter.unusedVariables false
section
variable {H : Type} {enc : TypeId × Value → H} {P : Program} {w : World} {base : Nat} {spare : Nat → Bool} {held : Bool}
theorem trod_fields {t : TypeId} {fs : Array Field} {fuel : Nat} {cs : List Value} {x : DataW H × List MemPlace} (ht : P.underlying t = some (.struct fs)) (h : DataW.trod enc P w base spare held fuel t cs = some x) :
    cs.length = P.cellsOf t ∧ ∃ n, ∀ (i : Nat) (ty : TypeId) (off : Nat), (fs[i]?.map fun f => (f.type, f.offset)) = some (ty, off) → ∃ y, DataW.trod enc P w base spare held n ty ((cs.drop off).take (P.cellsOf ty)) = some y := by
  obtain ⟨xs, n, _, _, hl, hlen, hf⟩ := DataW.trod_struct ht h
  refine ⟨hl, n, fun i ty off hm => ?_⟩
  obtain ⟨f, hi, he⟩ := Option.map_eq_some_iff.1 hm
  simp only [Prod.mk.injEq] at he
  obtain ⟨rfl, rfl⟩ := he
  have hlt : i < fs.size := (Array.getElem?_eq_some_iff.1 hi).1
  exact ⟨xs[i]'(by omega), by rw [hf i f hi, List.getElem?_eq_getElem (by omega)]⟩
theorem row_of {α : Type} (d : Kd α) {t e : TypeId} (ht : P.underlying t = some (.slice e)) (hc : P.cellsOf e = d.sz) (good : α → Prop) (each : ∀ fuel cs (x : DataW H × List MemPlace), DataW.trod enc P w 0 spare held fuel e cs = some x → ∃ y, d.K w y cs ∧ good y)
    {fuel : Nat} {a : Option Addr} {len cap : Nat} {x : DataW H × List MemPlace} (h : DataW.trod enc P w 0 spare held fuel t [.slice a len cap] = some x) :
    ∃ l : List α, l.length = len ∧ d.C w a len l ∧ len ≤ cap ∧ ∀ y ∈ l, good y := by
  rcases Go.Deep.open_slice ht h with ⟨hcs, _⟩ | ⟨ad, l, c, m, n, D, Pl, hcs, _, hl, hm, hmm, _, hx⟩
  · injection hcs with hcs _
    injection hcs with h1 h2 h3
    subst h1 h2 h3
    exact ⟨[], rfl, ⟨rfl, by omega, fun hp => absurd hp (Nat.lt_irrefl 0)⟩, Nat.le_refl _, fun y hy => by cases hy⟩
  · injection hcs with hcs _
    injection hcs with h1 h2 h3
    subst h1 h2 h3
    rw [hc] at hx
    have hlm : len ≤ m := by rw [hmm]; split <;> omega
    have each2 : ∀ i, i < len → ∃ y cs', w.cells? 0 (ad.add (i * d.sz)) d.sz = some cs' ∧ d.K w y cs' ∧ good y := by
      intro i hi
      obtain ⟨cs', hcc, hxx⟩ := hx i (by omega)
      obtain ⟨y, h1, h2⟩ := each _ _ _ hxx
      exact ⟨y, cs', hcc, h1, h2⟩
    have all : ∀ k, k ≤ len → ∃ l : List α, l.length = k ∧ (∀ y ∈ l, good y) ∧ ∀ (i : Nat) (h : i < l.length), ∃ cs', w.cells? 0 (ad.add (i * d.sz)) d.sz = some cs' ∧ d.K w l[i] cs' := by
      intro k
      induction k with
      | zero => intro _; exact ⟨[], rfl, (fun y hy => by cases hy), fun i hi => absurd hi (Nat.not_lt_zero _)⟩
      | succ k ih =>
        intro hk
        obtain ⟨l, hl, hg, hh⟩ := ih (by omega)
        obtain ⟨y, cs', h1, h2, h3⟩ := each2 k (by omega)
        refine ⟨l ++ [y], by rw [List.length_append, hl]; rfl, fun z hz => ?_, fun i hi => ?_⟩
        · rcases List.mem_append.1 hz with hz | hz
          · exact hg z hz
          · rw [List.mem_singleton.1 hz]; exact h3
        · rw [List.length_append, List.length_singleton] at hi
          by_cases hik : i < l.length
          · rw [List.getElem_append_left hik]
            exact hh i hik
          · have e : i = k := by omega
            subst e
            have hge : (l ++ [y])[i] = y := by rw [List.getElem_append_right (by omega)]; simp
            rw [hge]
            exact ⟨cs', h1, h2⟩
    obtain ⟨l, hl2, hg, hh⟩ := all len (Nat.le_refl _)
    have hml : maxLen = 9223372036854775807 := rfl
    refine ⟨l, hl2, ⟨hl2, by omega, fun _ => ⟨ad, rfl, fun j p hj => ?_⟩⟩, hl, hg⟩
    obtain ⟨hj1, hj2⟩ := List.getElem?_eq_some_iff.1 hj
    obtain ⟨cs', h1, h2⟩ := hh j hj1
    rw [hj2] at h2
    obtain ⟨_, hcl, hat⟩ := World.cells?_some h1
    refine ⟨cs', hcl, h2, fun i u hi => ?_⟩
    have hil : i < cs'.length := (List.getElem?_eq_some_iff.1 hi).1
    rw [← hi, ← hat i (by omega), Go.Deep.add_add]
end
theorem i64_wf {n : Int} (h : (Lit.int .i64 n).wf = true) : K.I64 n := by
  have e0 : IntKind.i64.min = -9223372036854775808 := by decide
  have e1 : IntKind.i64.max = 9223372036854775807 := by decide
  simp [Lit.wf, e0, e1] at h
  unfold K.I64
  omega
section
variable {H : Type} {enc : TypeId × Value → H} {W : World} {sp : Nat → Bool} {held : Bool}
theorem ci : Tryd.prog.cellsOf 3 = 1 := by kernel_rfl
theorem cst : Tryd.prog.cellsOf 9 = 1 := by kernel_rfl
theorem csl : Tryd.prog.cellsOf 34 = 1 := by kernel_rfl
theorem cse : Tryd.prog.cellsOf 39 = 1 := by kernel_rfl
theorem cln : Tryd.prog.cellsOf 118 = 2 := by kernel_rfl
theorem cop : Tryd.prog.cellsOf 36 = 5 := by kernel_rfl
theorem cen : Tryd.prog.cellsOf 38 = 7 := by kernel_rfl
theorem crc : Tryd.prog.cellsOf 41 = 12 := by kernel_rfl
set_option maxRecDepth 100000 in
theorem line_of {fuel : Nat} {cs : List Value} {x : DataW H × List MemPlace} (h : DataW.trod enc Tryd.prog W 0 sp held fuel 118 cs = some x) :
    ∃ y : K.Line, K.kLine.K W y cs ∧ y.f0.size ≤ 9223372036854775807 := by
  obtain ⟨hl, n, hf⟩ := trod_fields Tryd.underlying118 h
  rw [cln] at hl
  obtain ⟨y0, h0⟩ := hf 0 9 0 rfl
  obtain ⟨y1, h1⟩ := hf 1 3 1 rfl
  match cs, hl with
  | [v0, v1], _ =>
    obtain ⟨s0, e0, _, w0⟩ := DataW.trod_string Tryd.underlying9 h0
    obtain ⟨z1, e1, _, _⟩ := DataW.trod_int Tryd.underlying3 h1
    simp only [ci, cst] at e0 e1
    simp at e0 e1
    refine ⟨⟨s0, z1⟩, ?_, w0⟩
    rw [e0, e1]
    exact K.k118_mk W ⟨s0, z1⟩
theorem lines_of {fuel : Nat} {a : Option Addr} {len cap : Nat} {x : DataW H × List MemPlace} (h : DataW.trod enc Tryd.prog W 0 sp held fuel 34 [.slice a len cap] = some x) :
    ∃ l : List K.Line, l.length = len ∧ K.kLine.C W a len l ∧ len ≤ cap ∧ ∀ y ∈ l, y.f0.size ≤ 9223372036854775807 :=
  row_of K.kLine Tryd.underlying34 cln (fun y => y.f0.size ≤ 9223372036854775807) (fun _ _ _ h => line_of h) h
set_option maxRecDepth 100000 in
theorem op_of {fuel : Nat} {cs : List Value} {x : DataW H × List MemPlace} (h : DataW.trod enc Tryd.prog W 0 sp held fuel 36 cs = some x) :
    ∃ (o : K.Opn) (A : Option Addr) (c : Nat), cs = [.int .i64 o.f0, .string o.f1, .int .i64 o.f2, .int .i64 o.f3, .slice A o.f4.length c] ∧ o.f4.length ≤ c ∧ K.kLine.C W A o.f4.length o.f4 ∧ (∀ y ∈ o.f4, y.f0.size ≤ 9223372036854775807) ∧ o.f1.size ≤ 9223372036854775807 ∧ K.I64 o.f3 := by
  obtain ⟨hl, n, hf⟩ := trod_fields Tryd.underlying36 h
  rw [cop] at hl
  obtain ⟨y0, h0⟩ := hf 0 3 0 rfl
  obtain ⟨y1, h1⟩ := hf 1 9 1 rfl
  obtain ⟨y2, h2⟩ := hf 2 3 2 rfl
  obtain ⟨y3, h3⟩ := hf 3 3 3 rfl
  obtain ⟨y4, h4⟩ := hf 4 34 4 rfl
  match cs, hl with
  | [v0, v1, v2, v3, v4], _ =>
    obtain ⟨z0, e0, _, _⟩ := DataW.trod_int Tryd.underlying3 h0
    obtain ⟨s1, e1, _, w1⟩ := DataW.trod_string Tryd.underlying9 h1
    obtain ⟨z2, e2, _, _⟩ := DataW.trod_int Tryd.underlying3 h2
    obtain ⟨z3, e3, _, w3⟩ := DataW.trod_int Tryd.underlying3 h3
    simp only [csl] at h4
    simp at h4
    have h4s : ∃ a len cap, v4 = .slice a len cap := by
      rcases Go.Deep.open_slice Tryd.underlying34 h4 with ⟨hcs, _⟩ | ⟨ad, l, c, m, n, D, Pl, hcs, _⟩
      · exact ⟨_, _, _, by injection hcs⟩
      · exact ⟨_, _, _, by injection hcs⟩
    obtain ⟨a, len, cap, rfl⟩ := h4s
    obtain ⟨l, rfl, hC, hc, hg⟩ := lines_of h4
    simp only [ci, cst] at e0 e1 e2 e3
    simp at e0 e1 e2 e3
    exact ⟨⟨z0, s1, z2, z3, l⟩, a, cap, by rw [e0, e1, e2, e3], hc, hC, hg, w1, i64_wf w3⟩
set_option maxRecDepth 100000 in
theorem ent_of {fuel : Nat} {cs : List Value} {x : DataW H × List MemPlace} (h : DataW.trod enc Tryd.prog W 0 sp held fuel 38 cs = some x) :
    ∃ (e : K.Ent) (A : Option Addr) (c : Nat), cs = [.int .i64 e.f0, .int .i64 e.f1, .int .i64 e.f2.f0, .string e.f2.f1, .int .i64 e.f2.f2, .int .i64 e.f2.f3, .slice A e.f2.f4.length c] ∧ e.f2.f4.length ≤ c ∧ K.kLine.C W A e.f2.f4.length e.f2.f4 ∧ K.EntS e ∧ K.I64 e.f2.f3 := by
  obtain ⟨hl, n, hf⟩ := trod_fields Tryd.underlying38 h
  rw [cen] at hl
  obtain ⟨y0, h0⟩ := hf 0 3 0 rfl
  obtain ⟨y1, h1⟩ := hf 1 3 1 rfl
  obtain ⟨y2, h2⟩ := hf 2 36 2 rfl
  match cs, hl with
  | [v0, v1, v2, v3, v4, v5, v6], _ =>
    obtain ⟨z0, e0, _, _⟩ := DataW.trod_int Tryd.underlying3 h0
    obtain ⟨z1, e1, _, _⟩ := DataW.trod_int Tryd.underlying3 h1
    simp only [cop] at h2
    simp at h2
    obtain ⟨o, A, c, ho, hc, hC, hg, hs, hw⟩ := op_of h2
    simp only [ci] at e0 e1
    simp at e0 e1 ho
    obtain ⟨r2, r3, r4, r5, r6⟩ := ho
    exact ⟨⟨z0, z1, o⟩, A, c, by rw [e0, e1, r2, r3, r4, r5, r6], hc, hC, ⟨hC.2.1, hg, hs⟩, hw⟩
theorem ents_of {fuel : Nat} {a : Option Addr} {len cap : Nat} {x : DataW H × List MemPlace} (h : DataW.trod enc Tryd.prog W 0 sp held fuel 39 [.slice a len cap] = some x) :
    ∃ l : List K.Ent, l.length = len ∧ K.kEnt.C W a len l ∧ len ≤ cap ∧ ∀ y ∈ l, K.EntS y ∧ K.I64 y.f2.f3 :=
  row_of K.kEnt Tryd.underlying39 cen (fun y => K.EntS y ∧ K.I64 y.f2.f3) (fun _ _ _ h => by
    obtain ⟨e, A, c, rfl, hc, hC, hs, hw⟩ := ent_of h
    exact ⟨e, K.k38_mk W e hc hC, hs, hw⟩) h
set_option maxRecDepth 100000 in
theorem rec_of {fuel : Nat} {cs : List Value} {x : DataW H × List MemPlace} (h : DataW.trod enc Tryd.prog W 0 sp held fuel 41 cs = some x) :
    ∃ (r : K.Rec) (A B : Option Addr) (c d : Nat), cs = (K.recC r (.slice A r.f4.f2.f4.length c) (.slice B r.f5.length d)).toList ∧ r.f4.f2.f4.length ≤ c ∧ K.kLine.C W A r.f4.f2.f4.length r.f4.f2.f4 ∧ r.f5.length ≤ d ∧ K.kEnt.C W B r.f5.length r.f5 ∧ K.EntS r.f4 ∧ (∀ y ∈ r.f5, K.EntS y) ∧ K.RecW r := by
  obtain ⟨hl, n, hf⟩ := trod_fields Tryd.underlying41 h
  rw [crc] at hl
  obtain ⟨y0, h0⟩ := hf 0 3 0 rfl
  obtain ⟨y1, h1⟩ := hf 1 3 1 rfl
  obtain ⟨y2, h2⟩ := hf 2 3 2 rfl
  obtain ⟨y3, h3⟩ := hf 3 3 3 rfl
  obtain ⟨y4, h4⟩ := hf 4 38 4 rfl
  obtain ⟨y5, h5⟩ := hf 5 39 11 rfl
  match cs, hl with
  | [v0, v1, v2, v3, v4, v5, v6, v7, v8, v9, v10, v11], _ =>
    obtain ⟨z0, e0, _, _⟩ := DataW.trod_int Tryd.underlying3 h0
    obtain ⟨z1, e1, _, _⟩ := DataW.trod_int Tryd.underlying3 h1
    obtain ⟨z2, e2, _, _⟩ := DataW.trod_int Tryd.underlying3 h2
    obtain ⟨z3, e3, _, _⟩ := DataW.trod_int Tryd.underlying3 h3
    simp only [cen] at h4
    simp at h4
    simp only [cse] at h5
    simp at h5
    obtain ⟨e, A, c, ho, hc, hC, hs, hw⟩ := ent_of h4
    have h5s : ∃ a len cap, v11 = .slice a len cap := by
      rcases Go.Deep.open_slice Tryd.underlying39 h5 with ⟨hcs, _⟩ | ⟨ad, l, c, m, n, D, Pl, hcs, _⟩
      · exact ⟨_, _, _, by injection hcs⟩
      · exact ⟨_, _, _, by injection hcs⟩
    obtain ⟨a, len, cap, rfl⟩ := h5s
    obtain ⟨l, rfl, hD, hd, hg⟩ := ents_of h5
    simp only [ci] at e0 e1 e2 e3
    simp at e0 e1 e2 e3 ho
    obtain ⟨r4, r5, r6, r7, r8, r9, r10⟩ := ho
    exact ⟨⟨z0, z1, z2, z3, e, l⟩, A, a, c, cap, by rw [e0, e1, e2, e3, r4, r5, r6, r7, r8, r9, r10], hc, hC, hd, hD, hs, fun y hy => (hg y hy).1, hw, fun y hy => (hg y hy).2⟩
end
end Go.Proofs.YtmeblifbkhpdnaaDoor.Lw
namespace Go.Proofs.YtmeblifbkhpdnaaDoor.recordBytes
open Go.ChangeShapes Go.WideShapes Go.ChangeAt Go.RowKit
open Go.ChangeMaps (open_string shut_string)
set_option linter.unusedVariables false
set_option maxRecDepth 100000 in
theorem lifted (os : Os) (started : os.Started) (H : Type) (enc : TypeId × Value → H) :
    ReturnsInHanded {} Tryd.checked os 5 .any (fun w args => (Rows.recordBytesSpec.pre enc Tryd.prog Tryd.f5 [] false w args ∧ laidMetH Tryd.prog Lw.laid w) ∧ sizedMet enc Tryd.prog Tryd.f5 (OpenSpec.ofChange Rows.recordBytesSpec) false w args)
      (Rows.recordBytesSpec.post enc Tryd.prog Tryd.f5 false true false false) := by
  refine returnsInHanded_of_change_and (C := Tryd.checked) (X := fun w _ => laidMetH Tryd.prog Lw.laid w) (fun _ _ _ hh h => h.of_heap hh) Lw.own started (by kernel_rfl) Tryd.func5
    (ChangeSpec.witness_shaped (enc := enc) (C := Tryd.checked) (os := os) (X := fun w _ => laidMetH Tryd.prog Lw.laid w) false (World.doorLaid Tryd.prog 400 os) #[.agg #[.int .i64 0, .int .i64 0, .int .i64 0, .int .i64 0, .int .i64 0, .int .i64 0, .int .i64 0, .string ByteArray.empty, .int .i64 0, .int .i64 0, .slice none 0 0, .slice none 0 0], .agg #[.int .i64 0, .int .i64 0, .int .i64 0, .int .i64 0, .int .i64 0, .int .i64 0, .int .i64 0, .string ByteArray.empty, .int .i64 0, .int .i64 0, .slice none 0 0, .slice none 0 0]] 16 rfl (World.shaped_of_RefB (by kernel_rfl) (by kernel_rfl)) (by kernel_rfl) (by kernel_rfl) (by kernel_rfl) (Lw.door_met os _)) ?_
  intro W base args ds gs before hval0 hW hcnd hsz0 hL _
  have hval : ∀ (j : Nat) t v, Tryd.f5.params[j]? = some t → args[j]? = some v → Value.okWide Tryd.prog W .any base t v := hval0
  have hW' := hW
  obtain ⟨p, q, hA0, hV, rfl, hfz, hnd⟩ := hW
  have hA : DataW.TrodAll enc Tryd.prog W 0 (fun _ => true) true Tryd.f5.params.toList args.toList ds p := hA0
  rw [Tryd.params5] at hA hval
  obtain ⟨v0, vs0, d0, ds0, p0, q0, hargs, rfl, rfl, h0, r0⟩ := trodAll_cons hA
  obtain ⟨v1, vs1, d1, ds1, p1, q1, rfl, rfl, rfl, h1, r1⟩ := trodAll_cons r0
  obtain ⟨rfl, rfl, rfl⟩ := trodAll_nil r1
  obtain rfl : args = #[v0, v1] := by cases args; simp_all
  obtain ⟨rfl, rfl⟩ := trodVars_none hV
  obtain ⟨cs0, rfl, _⟩ := okWide_struct Tryd.underlying41 (hval 0 41 v0 rfl rfl)
  obtain ⟨cs1, rfl, _⟩ := okWide_struct Tryd.underlying41 (hval 1 41 v1 rfl rfl)
  have k0 := h0
  have k1 := h1
  have lt0 : ∀ x ∈ p0, x.block < W.heap.size := by obtain ⟨m, hm⟩ := k0; exact DataW.trod_lt m _ _ _ hm
  have lt1 : ∀ x ∈ p1, x.block < W.heap.size := by obtain ⟨m, hm⟩ := k1; exact DataW.trod_lt m _ _ _ hm
  obtain ⟨fuel0, hf0⟩ := h0
  obtain ⟨fuel1, hf1⟩ := h1
  obtain ⟨r, A, B, c, d, hr, hc, hC, hd, hD, hE, hS, hWr⟩ := Lw.rec_of hf0
  obtain ⟨q, A', B', c', d', hq, hc', hC', hd', hD', _, _, _⟩ := Lw.rec_of hf1
  obtain rfl : cs0 = K.recC r (.slice A r.f4.f2.f4.length c) (.slice B r.f5.length d) := by
    have h : cs0.toList = _ := hr
    cases cs0
    simp only at h
    rw [h]
  obtain rfl : cs1 = K.recC q (.slice A' q.f4.f2.f4.length c') (.slice B' q.f5.length d') := by
    have h : cs1.toList = _ := hq
    cases cs1
    simp only at h
    rw [h]
  obtain ⟨hGI, hGR⟩ := Lw.of_laid hL
  clear hA0 hval0 hsz0
  refine (K.recBytes_runs W A B A' B' c d c' d' r q hGI hGR hC hc hD hd hC' hc' hD' hd' hE hS hWr).mono fun e W' ⟨he, bel⟩ => ?_
  subst he
  exact ⟨_, rfl, _, _, _, [], _, [], hW', trodAll_mk1 (shut_bool Tryd.underlying4 _), (trodAll_cons_mk (Below.trod Lw.laidOut (by kernel_rfl) (of_decide_eq_true (by kernel_rfl)) k0 bel lt0) (trodAll_cons_mk (Below.trod Lw.laidOut (by kernel_rfl) (of_decide_eq_true (by kernel_rfl)) k1 bel lt1) trodAll_mk0)), rfl, bel.frame _, fun h => by cases h⟩
theorem over : Rows.recordBytesRow.holds Tryd.pinned (OpenSpec.ofChange Rows.recordBytesSpec) :=
  OpenClaim.holds_of_wide 5 Tryd.f5 rfl rfl rfl rfl rfl rfl rfl ⟨rfl, rfl, rfl, rfl, rfl⟩ rfl rfl rfl rfl rfl (by kernel_rfl) Tryd.func5 (by kernel_rfl)
    (of_decide_eq_true (by kernel_rfl)) (by unfold Func.isWrapper; first | (rw [if_pos (by decide +kernel)]; kernel_rfl) | (rw [if_neg (by decide +kernel)]; exact ⟨rfl, rfl⟩))
    (fun os started H enc _ => lifted os started H enc)
theorem card : Rows.RecordBytesCardSaid :=
  Claim7.holds_tied_plain_at .later [] [.data, .data] true (true, "ac748d212d0d79aa82e68b2273a819c1736f66a288add7512e8694986e20d5c1") false
    over (fun _ h => by cases h) (by kernel_rfl) (fun _ h => by cases h) recordBytes_row_tie rfl ⟨rfl, rfl⟩ (by kernel_rfl) rfl
    (fun f fn hf hfn => by
      obtain rfl : f = 5 := Option.some.inj ((show Tryd.prog.funcNamed "gimbal/gimballaw14.RecordBytes" = some 5 by kernel_rfl).symm.trans hf) |>.symm
      obtain rfl : fn = Tryd.f5 := (Option.some.inj (Tryd.func5.symm.trans hfn)).symm
      exact ⟨by kernel_rfl, fun j t ht => by
        rw [Tryd.params5] at ht
        have hm : t ∈ [41, 41] := by simpa using Array.mem_of_getElem? ht
        have hall : ([41, 41].all fun u => !Tryd.prog.wantsStandIn u) = true := by kernel_rfl
        exact (show Tryd.prog.wantsStandIn t = false by simpa using List.all_eq_true.1 hall t hm)⟩)
    (by kernel_rfl)
end Go.Proofs.YtmeblifbkhpdnaaDoor.recordBytes
namespace Go.Proofs.YtmeblifbkhpdnaaDoor
theorem recordBytes_holds : Rows.RecordBytesCardSaid := recordBytes.card
end Go.Proofs.YtmeblifbkhpdnaaDoor
