/- Texts of this claim, put together: what its theorem does not use is left out. No conditions. -/
import Derived.Test.YtmeblifbkhpdnaaDoorVc
import Derived.Outline
namespace Go.Proofs.YtmeblifbkhpdnaaDoor.K
set_option linter.unusedVariables false
set_option linter.unusedSimpArgs false
open Go.RowKit Go.Proofs.YtmeblifbkhpdnaaDoorW.PrintWords Go.Proofs.YtmeblifbkhpdnaaDoorW.PrintLast Go.Proofs.YtmeblifbkhpdnaaDoorW.PrintMore
theorem vr_enc (u : Nat) : ∀ (i : Nat) (a : Int) (t : List Int), i ≤ 9 → u * 128 ^ i < 18446744073709551616 → (i = 0 ∨ 0 < u) → vr i a (vEnc u ++ t) = (a + (u : Int) * 128 ^ i, t, 0) := by
  induction u using Nat.strongRecOn with
  | _ u ih =>
    intro i a t hi hu hp
    by_cases h : u < 128
    · rw [vEnc_lo u h, List.singleton_append, vr, if_neg, if_neg, if_pos (by omega)]
      · have : (u : Int) % 128 = u := by omega
        rw [this]
      · omega
      · rintro ⟨rfl, h1⟩
        have e : (128 : Nat) ^ 9 = 9223372036854775808 := by decide
        rw [e] at hu
        omega
    · have hi9 : i ≤ 8 := by
        rcases Nat.lt_or_ge i 9 with h9 | h9
        · omega
        · have : i = 9 := by omega
          subst this
          have e : (128 : Nat) ^ 9 = 9223372036854775808 := by decide
          rw [e] at hu
          omega
      rw [vEnc_hi u h, List.cons_append, vr, if_neg (by omega), if_neg (by omega), if_neg (by omega)]
      have hpow : u / 128 * 128 ^ (i + 1) ≤ u * 128 ^ i := by
        rw [Nat.pow_succ, Nat.mul_comm (128 ^ i) 128, ← Nat.mul_assoc]
        exact Nat.mul_le_mul_right _ (Nat.div_mul_le_self u 128)
      rw [ih (u / 128) (by omega) (i + 1) _ t (by omega) (by omega) (Or.inr (by omega))]
      have e1 : (((u % 128 + 128 : Nat) : Int)) % 128 = ((u % 128 : Nat) : Int) := by omega
      rw [e1]
      have e2 : a + ((u % 128 : Nat) : Int) * 128 ^ i + ((u / 128 : Nat) : Int) * 128 ^ (i + 1) = a + (u : Int) * 128 ^ i := by
        have e3 : (u : Int) = ((u % 128 : Nat) : Int) + ((u / 128 : Nat) : Int) * 128 := by omega
        rw [Int.pow_succ]
        conv => rhs; rw [e3]
        rw [Int.add_mul, Int.mul_assoc, Int.mul_comm (128 ^ i) 128, Int.add_assoc]
      rw [e2]
theorem rVar_enc (u : Nat) (t : List Int) (hu : u < 18446744073709551616) : rVar (vEnc u ++ t) 0 = ((u : Int), t, 0) := by
  unfold rVar
  rw [if_neg (by simp), vr_enc u 0 0 t (by omega) (by simpa using hu) (Or.inl rfl)]
  simp
theorem rText_enc (s t : List Int) (hs : s.length < 18446744073709551616) : rText (vEnc s.length ++ (s ++ t)) 0 = (s, t, 0) := by
  unfold rText
  rw [rVar_enc s.length (s ++ t) hs]
  simp only
  rw [if_neg (by simp), if_neg (by rw [List.length_append]; omega), Int.toNat_natCast, List.take_left, List.drop_left]
theorem str_of_sB (s : ByteArray) : strOfNums (sB s) = s := by
  obtain ⟨⟨l⟩⟩ := s
  unfold strOfNums sB
  congr 1
  simp only [List.map_map]
  have : (fun n : Int => UInt8.ofNat n.toNat) ∘ (fun b : UInt8 => (b.toNat : Int)) = id := by
    funext b
    simp
  rw [this, List.map_id]
theorem rNum1_cons (c : Int) (t : List Int) : rNum 1 (c :: t) 0 = (c, t, 0) := by
  unfold rNum
  rw [if_neg (by simp), if_neg (by simp)]
  simp [be]
theorem zag_zig (n : Int) (h : I64 n) : zag (zig n : Int) = n := by
  unfold I64 at h
  unfold zag zig
  split <;> split <;> omega
theorem small_of (u : Int) (h : u ≤ 9007199254740991) : small u = u := by
  unfold small
  rw [if_neg (by omega)]
end Go.Proofs.YtmeblifbkhpdnaaDoor.K
namespace Go.Proofs.YtmeblifbkhpdnaaDoor.K
set_option linter.unusedVariables false
set_option linter.unusedSimpArgs false
open Go.RowKit Go.Proofs.YtmeblifbkhpdnaaDoorW.PrintWords Go.Proofs.YtmeblifbkhpdnaaDoorW.PrintLast Go.Proofs.YtmeblifbkhpdnaaDoorW.PrintMore
theorem empty_of {s : ByteArray} (h : s.toList.isEmpty = true) : s = ⟨#[]⟩ := by
  rw [ByteArray.toList_eq] at h
  obtain ⟨⟨l⟩⟩ := s
  have h2 : l = [] := by simpa using h
  rw [h2]
def skuB (k : Int) (s : ByteArray) : List Int := if iHas k 1 then vEnc s.size ++ sB s else []
def ordB (k n : Int) : List Int := if iHas k 2 then vEnc n.toNat else []
def numB (k n : Int) : List Int := if iHas k 8 then vEnc (zig n) else if iHas k 4 then vEnc n.toNat else []
def lnsB (k : Int) (l : List Line) : List Int := if iHas k 16 then vEnc l.length ++ l.flatMap lineB else []
theorem opB_parts (o : Opn) : opB o = (o.f0 % 256) :: (skuB o.f0 o.f1 ++ (ordB o.f0 o.f2 ++ (numB o.f0 o.f3 ++ (lnsB o.f0 o.f4)))) := by
  unfold opB skuB ordB numB lnsB
  simp only [List.append_assoc]
  rfl
theorem sku_enc (k : Int) (s : ByteArray) (t : List Int) (h : may k 1 (nameOk s) s.toList.isEmpty = true) : pSku k (skuB k s ++ t, 0) = (s, t, 0) := by
  unfold pSku skuB
  cases h1 : iHas k 1
  · rw [empty_of (may_off h h1)]
    rfl
  · have h2 := nameOk_size s (may_on h h1)
    simp only [if_true]
    have h3 := rText_enc (sB s) t (by rw [sB_len]; omega)
    rw [sB_len] at h3
    rw [List.append_assoc, h3, str_of_sB]
theorem ord_enc (k n : Int) (t : List Int) (h : may k 2 (qty n) (n == 0) = true) : pOrd k (ordB k n ++ t, 0) = (n, t, 0) := by
  unfold pOrd ordB
  cases h1 : iHas k 2
  · have := may_off h h1
    simp at this
    rw [this]
    rfl
  · have h2 := (qty_iff _).1 (may_on h h1)
    simp only [if_true]
    rw [rVar_enc n.toNat t (by omega)]
    simp only
    rw [Int.toNat_of_nonneg (by omega), small_of n (by omega)]
theorem num_enc (o : Opn) (t : List Int) (hw : I64 o.f3) (h : may o.f0 4 (opN o) (o.f3 == 0) = true) : pNum o.f0 (numB o.f0 o.f3 ++ t, 0) = (o.f3, t, 0) := by
  unfold pNum numB
  cases h8 : iHas o.f0 8
  · cases h4 : iHas o.f0 4
    · have := may_off h h4
      simp at this
      rw [this]
      rfl
    · have h2 := may_on h h4
      unfold opN at h2
      rw [h8] at h2
      have h3 := (qty_iff _).1 (by simpa using h2)
      simp only [if_true, Bool.false_eq_true, if_false]
      rw [rVar_enc o.f3.toNat t (by omega)]
      simp only
      rw [Int.toNat_of_nonneg (by omega), small_of o.f3 (by omega)]
  · simp only [if_true]
    rw [rVar_enc (zig o.f3) t (zig_lt _ hw.1 hw.2)]
    simp only
    rw [zag_zig _ hw]
theorem lineOk_parts (x : Line) (h : lineOk x = true) : nameOk x.f0 = true ∧ 1 ≤ x.f1 ∧ x.f1 ≤ 2147483647 := by
  unfold lineOk at h
  simp only [Bool.and_eq_true] at h
  exact ⟨h.1, ((qty_iff _).1 h.2).1, ((qty_iff _).1 h.2).2⟩
theorem line_enc (x : Line) (t : List Int) (h : lineOk x = true) : pLine (lineB x ++ t, 0) = (x, t, 0) := by
  obtain ⟨h1, h2, h3⟩ := lineOk_parts x h
  have h4 := nameOk_size _ h1
  have h5 := rText_enc (sB x.f0) (vEnc x.f1.toNat ++ t) (by rw [sB_len]; omega)
  rw [sB_len] at h5
  unfold pLine lineB
  simp only [List.append_assoc, h5, rVar_enc x.f1.toNat t (by omega), str_of_sB]
  rw [Int.toNat_of_nonneg (by omega), small_of x.f1 (by omega)]
theorem iter_enc (ls : List Line) (t : List Int) (h : ls.all lineOk = true) : ∀ k, k ≤ ls.length → pIter k (ls.flatMap lineB ++ t, 0) = (ls.take k, (ls.drop k).flatMap lineB ++ t, 0)
  | 0, _ => by simp [pIter]
  | k + 1, hk => by
    have hlt : k < ls.length := by omega
    have ih := iter_enc ls t h k (by omega)
    have hx := List.all_eq_true.1 h _ (List.getElem_mem hlt)
    rw [pIter, ih]
    simp only
    rw [List.drop_eq_getElem_cons hlt, List.flatMap_cons, List.append_assoc, line_enc _ _ hx, List.take_succ_eq_append_getElem hlt]
theorem lns_enc (k : Int) (ls : List Line) (t : List Int) (h : may k 16 (linesOk ls) ((ls.length : Int) == 0) = true) : pLns k (lnsB k ls ++ t, 0) = (ls, t, 0) := by
  unfold pLns lnsB
  cases h1 : iHas k 16
  · have := may_off h h1
    have h2 : ls = [] := List.eq_nil_of_length_eq_zero (by simp at this; simp [this])
    rw [h2]
    rfl
  · obtain ⟨b1, b2, b3, _⟩ := lines_facts _ (may_on h h1)
    simp only [if_true]
    rw [List.append_assoc, rVar_enc ls.length _ (by omega)]
    simp only
    rw [Int.toNat_natCast, Nat.min_eq_left (by omega), iter_enc ls t b1 ls.length (Nat.le_refl _), List.take_length, List.drop_length]
    rfl
theorem kind_mod (o : Opn) (h : opOk o = true) : o.f0 % 256 = o.f0 := by
  have h1 := (within_iff _ _ _).1 (opOk_parts o h).1
  omega
theorem op_enc0 (o : Opn) (t : List Int) (h : opOk o = true) (hw : I64 o.f3) : pOp0 (opB o ++ t) = (o, t, 0) := by
  obtain ⟨p0, p1, p2, p3, p4⟩ := opOk_parts o h
  have e0 : opB o ++ t = o.f0 :: (skuB o.f0 o.f1 ++ (ordB o.f0 o.f2 ++ (numB o.f0 o.f3 ++ (lnsB o.f0 o.f4 ++ t)))) := by
    rw [opB_parts, kind_mod o h]
    simp only [List.cons_append, List.append_assoc]
  unfold pOp0
  rw [e0, rNum1_cons]
  simp only [sku_enc _ _ _ p1, ord_enc _ _ _ p2, num_enc _ _ hw p3, lns_enc _ _ _ p4]
theorem op_enc (o : Opn) (h : opOk o = true) (hw : I64 o.f3) : pOp (opB o) = (o, 0) := by
  have h1 := op_enc0 o [] h hw
  rw [List.append_nil] at h1
  unfold pOp
  rw [h1]
  have h2 : rEnd [] 0 = 0 := rfl
  have h3 : opE o = 0 := by unfold opE; rw [h]; rfl
  simp only [h2, h3]
  rfl
end Go.Proofs.YtmeblifbkhpdnaaDoor.K
namespace Go.Proofs.YtmeblifbkhpdnaaDoor.K
set_option linter.unusedVariables false
set_option linter.unusedSimpArgs false
open Go.RowKit Go.Proofs.YtmeblifbkhpdnaaDoorW.PrintWords Go.Proofs.YtmeblifbkhpdnaaDoorW.PrintLast Go.Proofs.YtmeblifbkhpdnaaDoorW.PrintMore
theorem entE_zero (x : Ent) (h : entOk x = true) : entE x = 0 := by
  unfold entE
  rw [h]
  rfl
theorem ent_enc (x : Ent) (h : entOk x = true) (hw : I64 x.f2.f3) : pEnt (entB x) = (x, 0) := by
  obtain ⟨h0, h1, h2, h3, h4⟩ := entOk_parts x h
  have e0 : entB x = x.f0 :: (vEnc x.f1.toNat ++ opB x.f2) := by
    unfold entB
    rw [show x.f0 % 256 = x.f0 by omega]
    simp only [List.append_assoc]
    rfl
  unfold pEnt
  rw [e0, rNum1_cons]
  simp only [rVar_enc x.f1.toNat (opB x.f2) (by omega), op_enc x.f2 h4 hw]
  rw [Int.toNat_of_nonneg (by omega), show min x.f1 2147483648 = x.f1 by omega, entE_zero x h]
  rfl
theorem rows_encN (t : List Int) : ∀ (ls acc : List Ent), ls.all entOk = true → (∀ y ∈ ls, I64 y.f2.f3) → pRowsN ls.length (ls.flatMap entT ++ t, 0) acc = (acc ++ ls, 0, t, 0)
  | [], acc, _, _ => by simp [pRowsN]
  | x :: ls, acc, h, hw => by
    rw [List.all_cons, Bool.and_eq_true] at h
    have hx := entB_len x h.1 (hw x (by simp))
    have ht := rText_enc (entB x) (ls.flatMap entT ++ t) (by omega)
    have e1 : (x :: ls).flatMap entT ++ t = vEnc (entB x).length ++ (entB x ++ (ls.flatMap entT ++ t)) := by
      simp [entT, List.append_assoc]
    rw [List.length_cons, pRowsN]
    simp only [e1, ht, ent_enc x h.1 (hw x (by simp))]
    rw [if_neg (by simp), if_neg (by simp), rows_encN t ls (acc ++ [x]) h.2 (fun y hy => hw y (by simp [hy])), List.append_assoc]
    rfl
theorem rows_enc (ls : List Ent) (h : ls.all entOk = true) (hw : ∀ y ∈ ls, I64 y.f2.f3) (hl : ls.length < 18446744073709551616) : pRows (rowB ls) = (ls, 0) := by
  unfold pRows rowB
  rw [rVar_enc ls.length _ hl]
  simp only [Int.toNat_natCast]
  have h1 := rows_encN [] ls [] h hw
  rw [List.append_nil] at h1
  rw [h1]
  have h2 : rEnd [] 0 = 0 := rfl
  simp only [h2]
  simp
end Go.Proofs.YtmeblifbkhpdnaaDoor.K
namespace Go.Proofs.YtmeblifbkhpdnaaDoor.K
set_option linter.unusedVariables false
set_option linter.unusedSimpArgs false
open Go.RowKit Go.Proofs.YtmeblifbkhpdnaaDoorW.PrintWords Go.Proofs.YtmeblifbkhpdnaaDoorW.PrintLast Go.Proofs.YtmeblifbkhpdnaaDoorW.PrintMore
def be2 (t : List Int) : Int := be (t.take 2)
def scan1 (t : List Int) : Int × Option (Rec × Nat) :=
  if t.length < 4 then (0, none) else
  if be2 (t.drop 2) ≠ 65535 - be2 t then (150, none) else
  if t.length < (be2 t).toNat + 8 then (0, none) else
  match pRec ((t.drop 4).take (be2 t).toNat) with
  | none => (150, none)
  | some r => if be ((t.drop ((be2 t).toNat + 4)).take 4) ≠ crcI (t.take ((be2 t).toNat + 4)) then (150, none) else (0, some (r, (be2 t).toNat + 8))
def scanF : Nat → List Int → List Rec × Nat × Int
  | 0, _ => ([], 0, 0)
  | f + 1, t => match (scan1 t).2 with
    | none => ([], 0, (scan1 t).1)
    | some x => (x.1 :: (scanF f (t.drop x.2)).1, x.2 + (scanF f (t.drop x.2)).2.1, (scanF f (t.drop x.2)).2.2)
def pScan (l : List Int) : List Rec × Nat × Int := scanF (l.length + 1) l
theorem infoRec : (Tryd.prog.info? 41).map (fun i => (i.zero, i.size, i.bytes)) = some (some (.agg #[(.int .i64 0), (.int .i64 0), (.int .i64 0), (.int .i64 0), (.int .i64 0), (.int .i64 0), (.int .i64 0), (.string ⟨#[]⟩), (.int .i64 0), (.int .i64 0), (.slice none 0 0), (.slice none 0 0)]), 12, 136) := by kernel_rfl
theorem be2_range (t : List Int) (hb : CrcMath.Bytes t) : 0 ≤ be2 t ∧ be2 t ≤ 65535 := by
  unfold be2
  have h := be_range (t.take 2) (fun z hz => hb z (List.mem_of_mem_take hz)) (t.take 2).length (Nat.le_refl _)
  rw [List.take_length] at h
  have h2 : (t.take 2).length ≤ 2 := by rw [List.length_take]; omega
  have h3 : (256 : Int) ^ (t.take 2).length ≤ 65536 := by
    have : (t.take 2).length = 0 ∨ (t.take 2).length = 1 ∨ (t.take 2).length = 2 := by omega
    rcases this with h | h | h <;> rw [h] <;> decide
  omega
theorem Kd.R_newer {α : Type} {d : Kd α} {e base : Nat} {ok : Nat → Prop} {w w1 : World} {v : Value} {xs : List α} {g : Nat} (h : d.R e w base ok v xs) (hb : Below w.heap.size w w1) (hg : w.heap.size ≤ g) : d.R e w1 base (fun j => j ≠ g) v xs :=
  Kd.R_below (Kd.R_mono (Kd.R_bound h) (fun j hj e => by have := hj.2.2.1; omega)) hb
theorem scan_w1 (L a : Nat) (hL : L < 1099511627776) (ha : a ≤ L) : wrap64 ((L : Int) - (a : Int)) = (L : Int) - (a : Int) := by rw [wrap64_in (by omega) (by omega)]
theorem scan_w2 (L a : Nat) (n : Int) (hL : L < 1099511627776) (ha : a ≤ L) (h0 : 0 ≤ n) (h1 : n ≤ 65535) : wrap64 ((a : Int) + 4) = (a : Int) + 4 ∧ wrap64 ((a : Int) + 4 + n) = (a : Int) + 4 + n ∧ wrap64 ((a : Int) + 4 + n + 4) = (a : Int) + 4 + n + 4 ∧ wrap64 (65535 - n) = 65535 - n ∧ wrap64 n = n :=
  ⟨by rw [wrap64_in (by omega) (by omega)], by rw [wrap64_in (by omega) (by omega)], by rw [wrap64_in (by omega) (by omega)], by rw [wrap64_in (by omega) (by omega)], by rw [wrap64_in (by omega) (by omega)]⟩
theorem scan_w3 (n : Int) (h0 : 0 ≤ n) (h1 : n ≤ 65535) : wrap64 n = n := by rw [wrap64_in (by omega) (by omega)]
theorem scan_facts (l tl : List Int) (a : Nat) (hb : CrcMath.Bytes l) (ha : a ≤ l.length) (h4 : ¬ l.length - a < 4) (htl : tl = l.drop a) :
    scan1 tl = ((if be2 (tl.drop 2) ≠ 65535 - be2 tl then (150, none) else
      if tl.length < (be2 tl).toNat + 8 then (0, none) else
      match pRec ((tl.drop 4).take (be2 tl).toNat) with
      | none => (150, none)
      | some r => if be ((tl.drop ((be2 tl).toNat + 4)).take 4) ≠ crcI (tl.take ((be2 tl).toNat + 4)) then (150, none) else (0, some (r, (be2 tl).toNat + 8)) : Int × Option (Rec × Nat))) ∧
    tl.length = l.length - a ∧ CrcMath.Bytes tl ∧ (∀ x y : Nat, x ≤ y → (l.take (a + y)).drop (a + x) = (tl.drop x).take (y - x)) ∧ (0 ≤ be2 tl ∧ be2 tl ≤ 65535) ∧ (0 ≤ be2 (tl.drop 2) ∧ be2 (tl.drop 2) ≤ 65535) := by
  have htb : CrcMath.Bytes tl := fun z hz => hb z (List.mem_of_mem_drop (i := a) (by rw [← htl]; exact hz))
  have htlen : tl.length = l.length - a := by rw [htl, List.length_drop]
  refine ⟨?_, htlen, htb, fun x y hxy => ?_, be2_range tl htb, be2_range _ (fun z hz => htb z (List.mem_of_mem_drop hz))⟩
  · unfold scan1
    rw [if_neg (by rw [htlen]; exact h4)]
  · rw [htl, List.drop_drop, List.drop_take]
    congr 1
    omega
theorem scan_head (A : Option Addr) (c : Nat) (l tl : List Int) (a : Nat) (hb : CrcMath.Bytes l) (hc : l.length ≤ c) (hl : l.length < 1099511627776) (ha : a ≤ l.length) (h4 : ¬ l.length - a < 4) (htl : tl = l.drop a) :
    ∃ A1 : Option Addr, (∀ W : World, (Instr.slice 22 (.slice A l.length c) (some (.int .i64 (a : Int))) (some (.int .i64 ((a + 4 : Nat) : Int))) none).run Tryd.prog W = .ok (.slice A1 4 (c - a)) W) ∧
      (∀ W : World, Kd.C (Kd.int .u8) W A l.length l → Calls Tryd.prog 24 #[.slice A1 4 (c - a)] W fun en w' => ∃ g, en = .returned (.pointer (some ⟨g, 0, none⟩)) ∧ W.heap.size ≤ g ∧ Rd w' g (tl.take 4) 0 ∧ Below W.heap.size W w') ∧
      rNum 2 (tl.take 4) 0 = (be2 tl, (tl.drop 2).take 2, 0) ∧ rNum 2 ((tl.drop 2).take 2) 0 = (be2 (tl.drop 2), [], 0) := by
  obtain ⟨_, htlen, htb, hmid, _, _⟩ := scan_facts l tl a hb ha h4 htl
  obtain ⟨A1, hcut1, hC1, hcap1, hlen1⟩ := bytes_mid .i64 .i64 A c l a (a + 4) (by omega) (by omega) hc
  have hm1 := hmid 0 4 (by omega)
  rw [Nat.add_zero] at hm1
  rw [hm1] at hC1 hcap1 hlen1
  simp only [List.drop_zero, Nat.sub_zero] at hC1 hcap1 hlen1 hm1
  rw [show a + 4 - a = 4 by omega] at hcut1 hlen1
  refine ⟨A1, hcut1, fun W h => ?_, ?_, ?_⟩
  · have hrd := bits_Read W A1 (c - a) (tl.take 4) (hC1 W h) hcap1 (fun z hz => htb z (List.mem_of_mem_take hz)) (by omega)
    rwa [hlen1] at hrd
  · unfold rNum be2
    rw [if_neg (by simp), if_neg (by omega), List.take_take, List.drop_take]
    rfl
  · unfold rNum be2
    rw [if_neg (by simp), if_neg (by rw [List.length_take, List.length_drop]; omega), List.take_take, List.drop_take]
    simp
theorem scan_cuts (A : Option Addr) (c : Nat) (l tl : List Int) (a N : Nat) (hb : CrcMath.Bytes l) (hc : l.length ≤ c) (hl : l.length < 1099511627776) (ha : a ≤ l.length) (h4 : ¬ l.length - a < 4) (htl : tl = l.drop a) (hN : ¬ tl.length < N + 8) :
    ∃ A2 A3 A4 : Option Addr, ∃ c2 c3 : Nat,
      (∀ W : World, (Instr.slice 22 (.slice A l.length c) (some (.int .i64 ((a + 4 : Nat) : Int))) (some (.int .i64 ((a + 4 + N : Nat) : Int))) none).run Tryd.prog W = .ok (.slice A2 N c2) W) ∧
      (∀ W : World, (Instr.slice 22 (.slice A l.length c) (some (.int .i64 ((a + 4 + N : Nat) : Int))) (some (.int .i64 ((a + 4 + N + 4 : Nat) : Int))) none).run Tryd.prog W = .ok (.slice A3 4 c3) W) ∧
      (∀ W : World, (Instr.slice 22 (.slice A l.length c) (some (.int .i64 (a : Int))) (some (.int .i64 ((a + 4 + N : Nat) : Int))) none).run Tryd.prog W = .ok (.slice A4 (N + 4) (c - a)) W) ∧
      (∀ W : World, GItem W → GRec W → Kd.C (Kd.int .u8) W A l.length l → Calls Tryd.prog 26 #[.slice A2 N c2] W fun en w' => ∃ r v u, en = .returned (.tuple #[recV r v u, .bool (pRec ((tl.drop 4).take N)).isSome]) ∧ Kd.R kLine 118 w' W.heap.size (fun _ => True) v r.f4.f2.f4 ∧ Kd.R kEnt 38 w' W.heap.size (fun _ => True) u r.f5 ∧ (∀ y, pRec ((tl.drop 4).take N) = some y → r = y) ∧ Below W.heap.size W w') ∧
      (∀ W : World, Kd.C (Kd.int .u8) W A l.length l → Calls Tryd.prog 24 #[.slice A3 4 c3] W fun en w' => ∃ g, en = .returned (.pointer (some ⟨g, 0, none⟩)) ∧ W.heap.size ≤ g ∧ Rd w' g ((tl.drop (N + 4)).take 4) 0 ∧ Below W.heap.size W w') ∧
      rNum 4 ((tl.drop (N + 4)).take 4) 0 = (be ((tl.drop (N + 4)).take 4), [], 0) ∧
      (∀ W : World, Kd.C (Kd.int .u8) W A l.length l → Calls Tryd.prog 27 #[.slice A4 (N + 4) (c - a)] W fun e w' => e = .returned (.int .u32 (crcI (tl.take (N + 4)))) ∧ Below W.heap.size W w') := by
  obtain ⟨_, htlen, htb, hmid, _, _⟩ := scan_facts l tl a hb ha h4 htl
  obtain ⟨A2, hcut2, hC2, hcap2, hlen2⟩ := bytes_mid .i64 .i64 A c l (a + 4) (a + 4 + N) (by omega) (by omega) hc
  obtain ⟨A3, hcut3, hC3, hcap3, hlen3⟩ := bytes_mid .i64 .i64 A c l (a + 4 + N) (a + 4 + N + 4) (by omega) (by omega) hc
  obtain ⟨A4, hcut4, hC4, hcap4, hlen4⟩ := bytes_mid .i64 .i64 A c l a (a + 4 + N) (by omega) (by omega) hc
  have hm2 := hmid 4 (4 + N) (by omega)
  have hm3 := hmid (N + 4) (N + 8) (by omega)
  have hm4 := hmid 0 (N + 4) (by omega)
  rw [show a + (4 + N) = a + 4 + N by omega, show 4 + N - 4 = N by omega] at hm2
  rw [show a + (N + 8) = a + 4 + N + 4 by omega, show a + (N + 4) = a + 4 + N by omega, show N + 8 - (N + 4) = 4 by omega] at hm3
  rw [show a + (N + 4) = a + 4 + N by omega, Nat.add_zero, Nat.sub_zero, List.drop_zero] at hm4
  rw [hm2] at hC2 hcap2 hlen2
  rw [hm3] at hC3 hcap3 hlen3
  rw [hm4] at hC4 hcap4 hlen4
  rw [show a + 4 + N - (a + 4) = N by omega] at hcut2 hlen2
  rw [show a + 4 + N + 4 - (a + 4 + N) = 4 by omega] at hcut3 hlen3
  rw [show a + 4 + N - a = N + 4 by omega] at hcut4 hlen4
  refine ⟨A2, A3, A4, _, _, hcut2, hcut3, hcut4, fun W hg hh h => ?_, fun W h => ?_, ?_, fun W h => ?_⟩
  · have h1 := record_parse W A2 _ ((tl.drop 4).take N) hg hh (hC2 W h) hcap2 (fun z hz => htb z (List.mem_of_mem_drop (List.mem_of_mem_take hz))) (by omega)
    rwa [hlen2] at h1
  · have h1 := bits_Read W A3 _ ((tl.drop (N + 4)).take 4) (hC3 W h) hcap3 (fun z hz => htb z (List.mem_of_mem_drop (List.mem_of_mem_take hz))) (by omega)
    rwa [hlen3] at h1
  · unfold rNum
    rw [if_neg (by simp), if_neg (by omega), List.take_take]
    have h5 : ((tl.drop (N + 4)).take 4).drop 4 = [] := List.drop_of_length_le (by omega)
    rw [h5]
    rfl
  · have h1 := sum_Crc.calls A4 (c - a) (tl.take (N + 4)) _ W (hC4 W h) hcap4 rfl
    rwa [hlen4] at h1
structure SC (w : World) (Z q : Nat) (s2 : Value) (acc : List Rec) (r : Rec) (v u : Value) (W : World) : Prop where
  low : Below w.heap.size w W
  size : Z ≤ W.heap.size
  row : Kd.R kRec 41 W w.heap.size (fun j => j < Z) s2 acc
  rv : Kd.R kLine 118 W w.heap.size (fun j => j < Z) v r.f4.f2.f4
  ru : Kd.R kEnt 38 W w.heap.size (fun j => j < Z) u r.f5
  lt : q < Z
  box : W.heap[q]? = some (.cells (recC r v u) 41 (0, 0))
section
variable {w W W' : World} {Z q : Nat} {s2 : Value} {acc : List Rec} {r : Rec} {v u : Value}
theorem SC.k2 (hb : Below W.heap.size W W') (h : Aside0 (SC w Z q s2 acc r v u W)) : Aside0 (SC w Z q s2 acc r v u W') :=
  ⟨h.out.low.trans (hb.mono h.out.low.size), Nat.le_trans h.out.size hb.size, Kd.R_below h.out.row hb, Kd.R_below h.out.rv hb, Kd.R_below h.out.ru hb, h.out.lt, blk_below h.out.box hb⟩
theorem SC.k1 (h : Aside0 (SC w Z q s2 acc r v u W)) : Aside0 (SC w Z q s2 acc r v u W.drew) := SC.k2 (below_drew (Below.refl _ _)) h
theorem SC.k3 {g : Nat} (hg : W.grownBy W' (some g)) (hz : Z ≤ g) (hw : w.heap.size ≤ g) (h : Aside0 (SC w Z q s2 acc r v u W)) : Aside0 (SC w Z q s2 acc r v u W') :=
  ⟨below_grownG h.out.low hg hw, Nat.le_trans h.out.size hg.size, Kd.R_grown h.out.row hg (fun j hj e => by have := Option.some.inj e; omega), Kd.R_grown h.out.rv hg (fun j hj e => by have := Option.some.inj e; omega), Kd.R_grown h.out.ru hg (fun j hj e => by have := Option.some.inj e; omega), h.out.lt, blk_grown h.out.box hg (fun e => by have := h.out.lt; have := Option.some.inj e; omega)⟩
end
def ScanAt (l : List Int) (f at_ : Nat) (acc : List Rec) : Prop :=
  (pScan l).1 = acc ++ (scanF f (l.drop at_)).1 ∧ (pScan l).2.1 = at_ + (scanF f (l.drop at_)).2.1 ∧ (pScan l).2.2 = (scanF f (l.drop at_)).2.2 ∧ l.length - at_ < f
theorem ScanAt.stop {l : List Int} {f a : Nat} {acc : List Rec} (h : ScanAt l f a acc) {e : Int} (hs : scan1 (l.drop a) = (e, none)) : pScan l = (acc, a, e) := by
  obtain ⟨h1, h2, h3, h4⟩ := h
  cases f with
  | zero => omega
  | succ f =>
    rw [scanF, hs] at h1 h2 h3
    simp only [List.append_nil, Nat.add_zero] at h1 h2 h3
    exact Prod.ext h1 (Prod.ext h2 h3)
theorem ScanAt.next {l : List Int} {f a k : Nat} {acc : List Rec} {r : Rec} (h : ScanAt l f a acc) (hs : scan1 (l.drop a) = (0, some (r, k))) (hk : 0 < k) (ha : a < l.length) : ∃ f', ScanAt l f' (a + k) (acc ++ [r]) := by
  obtain ⟨h1, h2, h3, h4⟩ := h
  cases f with
  | zero => omega
  | succ f =>
    rw [scanF, hs] at h1 h2 h3
    simp only [List.drop_drop] at h1 h2 h3
    exact ⟨f, by rw [h1, List.append_assoc]; rfl, by rw [h2, Nat.add_assoc], h3, by omega⟩
set_option maxRecDepth 20000 in
set_option maxHeartbeats 8000000 in
theorem record_Scan (w : World) (A : Option Addr) (c : Nat) (l : List Int) (hG : GItem w) (hH : GRec w) (hC : Kd.C (Kd.int .u8) w A l.length l) (hc : l.length ≤ c) (hb : CrcMath.Bytes l) (hl : l.length < 1099511627776) :
    Calls Tryd.prog 9 #[.slice A l.length c] w fun en w' => ∃ v, en = .returned (.tuple #[v, .int .i64 ((pScan l).2.1 : Int), .int .i64 (pScan l).2.2]) ∧ Kd.R kRec 41 w' w.heap.size (fun _ => True) v (pScan l).1 ∧ Below w.heap.size w w' := by
  have HG := Aside0.mk hG
  have HH := Aside0.mk hH
  have HC := Aside0.mk hC
  have HCC := Aside0.mk hc
  have HBY := Aside0.mk hb
  have HL := Aside0.mk hl
  clear hG hH hC hc hb hl
  go_enter Tryd.func9, Tryd.ntmps9
  go_wp2_with fail
  go_step3
  go_wp2_with fail
  go_step3
  go_wp2_with fail
  go_loopw [2, 3, 4] (fun s2 s3 s4 wr => ∃ (f a : Nat) (ai : Int) (acc : List Rec), s3 = .int .i64 ai ∧ s4 = .int .i64 0 ∧ Aside0 (ai = (a : Int)) ∧ Aside0 (a ≤ l.length) ∧ Aside0 (acc.length * 8 ≤ a) ∧ Aside0 (ScanAt l f a acc) ∧ Aside0 (Kd.R kRec 41 wr w.heap.size (fun _ => True) s2 acc) ∧ Aside0 (Below w.heap.size w wr)) (fun _ s3 _ _ => l.length - (intOf s3).toNat)
  case atStart => exact ⟨l.length + 1, 0, 0, [], rfl, rfl, ⟨rfl⟩, ⟨by omega⟩, ⟨by simp⟩, ⟨rfl, (Nat.zero_add _).symm, rfl, by omega⟩, ⟨Kd.R_nil _ _ _ _ _⟩, ⟨Below.refl _ _⟩⟩
  case round =>
    obtain ⟨f, a, ai, acc, rfl, rfl, HAI, HAL, HACC, HSC, HO, HB⟩ := hrel
    obtain ⟨dd, hdd⟩ : ∃ dd : Int, dd = (l.length : Int) - ai := ⟨_, rfl⟩
    have hwd : wrap64 ((l.length : Int) - ai) = dd := by rw [hdd, HAI.out]; exact scan_w1 _ _ HL.out HAL.out
    have HDD := Aside0.mk hdd
    clear hdd
    by_cases h4 : l.length - a < 4
    · have hd : decide (4 ≤ dd) = false := decide_eq_false (by rw [HDD.out, HAI.out]; omega)
      have hst : scan1 (l.drop a) = (0, none) := by unfold scan1; rw [if_pos (by rw [List.length_drop]; exact h4)]
      have HPO := Aside0.mk (HSC.out.stop hst)
      clear hst h4
      go_wp2_with fail
      rw [Exit.noGoto_ret]
      go_ret3
      exact ⟨_, by rw [HPO.out, HAI.out]; rfl, by rw [HPO.out]; exact HO.out, HB.out⟩
    · have hd : decide (4 ≤ dd) = true := decide_eq_true (by rw [HDD.out, HAI.out]; have := HAL.out; omega)
      have H4 := Aside0.mk h4
      clear h4
      obtain ⟨tl, htl⟩ : ∃ tl, tl = l.drop a := ⟨_, rfl⟩
      have HTL := Aside0.mk htl
      have HSTOP : Aside0 (∀ e, scan1 tl = (e, none) → pScan l = (acc, a, e)) := ⟨fun e h => HSC.out.stop (by rw [← HTL.out]; exact h)⟩
      have HNEXT : Aside0 (∀ r k, scan1 tl = (0, some (r, k)) → 0 < k → ∃ f', ScanAt l f' (a + k) (acc ++ [r])) := ⟨fun r k h hk => HSC.out.next (by rw [← HTL.out]; exact h) hk (by have := H4.out; omega)⟩
      obtain ⟨hs, htlen, htb, hmid, hn, hm⟩ := scan_facts l tl a HBY.out HAL.out H4.out htl
      obtain ⟨A1, hcut1, hrd, hq1, hq2⟩ := scan_head A c l tl a HBY.out HCC.out HL.out HAL.out H4.out htl
      clear htl
      have HN1 := Aside0.mk (fun W g h => rd_Num 2 (.inr (.inl rfl)) W g (tl.take 4) 0 h 16 rfl)
      have HN2 := Aside0.mk (fun W g h => rd_Num 2 (.inr (.inl rfl)) W g ((tl.drop 2).take 2) 0 h 16 rfl)
      rw [hq1] at HN1
      rw [hq2] at HN2
      simp only at HN1 HN2
      have HRD := Aside0.mk hrd
      have HNEQ : Aside0 (((be2 tl).toNat : Int) = be2 tl) := ⟨Int.toNat_of_nonneg hn.1⟩
      obtain ⟨hv1, hv2, hv3, hv4, hv5⟩ := scan_w2 l.length a (be2 tl) HL.out HAL.out hn.1 hn.2
      have hv6 := scan_w3 (be2 (tl.drop 2)) hm.1 hm.2
      have HS := Aside0.mk hs
      have HNR := Aside0.mk hn
      have HTLEN := Aside0.mk htlen
      have HTB := Aside0.mk htb
      have HMID := Aside0.mk hmid
      clear hs hn hm htlen htb hmid hrd hq1 hq2
      generalize be2 (tl.drop 2) = m at *
      generalize be2 tl = n at *
      rw [← HAI.out] at hv1 hv2 hv3 hcut1
      obtain ⟨b4, hb4⟩ : ∃ b4 : Int, b4 = ai + 4 := ⟨_, rfl⟩
      rw [← hb4] at hv2 hv3
      replace hv1 := hv1.trans hb4.symm
      obtain ⟨e4, he4⟩ : ∃ e4 : Int, e4 = b4 + n := ⟨_, rfl⟩
      rw [← he4] at hv3
      replace hv2 := hv2.trans he4.symm
      obtain ⟨e8, he8⟩ : ∃ e8 : Int, e8 = e4 + 4 := ⟨_, rfl⟩
      replace hv3 := hv3.trans he8.symm
      obtain ⟨nn, hnn⟩ : ∃ nn : Int, nn = 65535 - n := ⟨_, rfl⟩
      replace hv4 := hv4.trans hnn.symm
      have hb4' : ((a + 4 : Nat) : Int) = b4 := by rw [hb4, HAI.out]; rfl
      rw [hb4'] at hcut1
      have HEQ := Aside0.mk (And.intro hb4 (And.intro he4 (And.intro he8 hnn)))
      clear hb4 he4 he8 hnn hb4'
      go_upto_if 29 with (first
        | (go_at_call 24; refine (HRD.out wr (Kd.C_below HC.out HB.out)).mono ?_; rintro en w1 ⟨g, rfl, hge, hr, hbb⟩; have HR := Aside0.mk hr; have HB1 := Aside0.mk (HB.out.trans (hbb.mono HB.out.size)); have HGE := Aside0.mk (Nat.le_trans HB.out.size hge); have HO1 := Aside0.mk (Kd.R_newer HO.out hbb hge); clear hr hbb hge)
        | (go_at_call 25; refine (HN1.out w1 g HR.out).mono ?_; rintro en w2 ⟨rfl, hr, hg⟩; clear HN1; have HR2 := Aside0.mk hr; have HB2 := Aside0.mk (below_grownG HB1.out hg HGE.out); have HO2 := Aside0.mk (Kd.R_grown HO1.out hg (fun j hj q => hj (Option.some.inj q))); clear hr hg)
        | (go_at_call 25; refine (HN2.out w2 g HR2.out).mono ?_; rintro en w3 ⟨rfl, hr, hg⟩; clear HN2; have HB3 := Aside0.mk (below_grownG HB2.out hg HGE.out); have HO3 := Aside0.mk (Kd.R_mono (Kd.R_grown HO2.out hg (fun j hj q => hj (Option.some.inj q))) (ok' := fun _ => True) (fun _ _ => trivial)); clear hr hg))
      have HQ1 : Aside0 (m ≠ nn → scan1 tl = (150, none)) := ⟨fun h => by rw [HS.out, if_pos (by rw [← HEQ.out.2.2.2]; exact h)]⟩
      have HQ2 : Aside0 (m = nn → scan1 tl = ((if tl.length < n.toNat + 8 then (0, none) else
          match pRec ((tl.drop 4).take n.toNat) with
          | none => (150, none)
          | some r => if be ((tl.drop (n.toNat + 4)).take 4) ≠ crcI (tl.take (n.toNat + 4)) then (150, none) else (0, some (r, n.toNat + 8)) : Int × Option (Rec × Nat)))) := ⟨fun h => by rw [HS.out, if_neg (by rw [← HEQ.out.2.2.2]; exact fun q => q h)]⟩
      clear HS HR HR2 HB1 HB2 HO1 HO2 HO HRD
      by_cases hsp : m = nn
      · have hb1 : (m != nn) = false := by rw [hsp]; simp
        have HS := Aside0.mk (HQ2.out hsp)
        clear HQ1 HQ2 hsp
        by_cases hsh : tl.length < n.toNat + 8
        · have hb2 : decide ((l.length : Int) < e8) = true := decide_eq_true (by rw [HEQ.out.2.2.1, HEQ.out.2.1, HEQ.out.1, HAI.out]; have h1 := HTLEN.out; have h2 := HNEQ.out; have h3 := HAL.out; omega)
          have HPO := Aside0.mk (HSTOP.out 0 (by rw [HS.out, if_pos hsh]))
          clear hsh HS HSTOP HNEXT
          go_wp2_with fail
          rw [Exit.noGoto_ret]
          go_ret3
          exact ⟨_, by rw [HPO.out, HAI.out]; rfl, by rw [HPO.out]; exact HO3.out, HB3.out⟩
        · have hb2 : decide ((l.length : Int) < e8) = false := decide_eq_false (by rw [HEQ.out.2.2.1, HEQ.out.2.1, HEQ.out.1, HAI.out]; have h1 := HTLEN.out; have h2 := HNEQ.out; have h3 := HAL.out; omega)
          have HSH := Aside0.mk hsh
          have hs := HS.out
          rw [if_neg hsh] at hs
          have HS2 := Aside0.mk hs
          clear hsh HS hs
          obtain ⟨N, hN⟩ : ∃ N, N = n.toNat := ⟨_, rfl⟩
          rw [← hN] at HS2 HSH
          obtain ⟨A2, A3, A4, c2, c3, hcut2, hcut3, hcut4, hpar, hred, hnum, hcrc⟩ := scan_cuts A c l tl a N HBY.out HCC.out HL.out HAL.out H4.out HTL.out HSH.out
          have hnN : (N : Int) = n := by rw [hN]; exact HNEQ.out
          have hb4' : ((a + 4 : Nat) : Int) = b4 := by rw [HEQ.out.1, HAI.out]; rfl
          have he4' : ((a + 4 + N : Nat) : Int) = e4 := by rw [HEQ.out.2.1, ← hb4', ← hnN]; rfl
          have he8' : ((a + 4 + N + 4 : Nat) : Int) = e8 := by rw [HEQ.out.2.2.1, ← he4']; rfl
          rw [hb4', he4'] at hcut2
          rw [he4', he8'] at hcut3
          rw [he4', ← HAI.out] at hcut4
          have HE8 := Aside0.mk he8'
          have HPAR := Aside0.mk hpar
          have HRED := Aside0.mk hred
          have HCRC := Aside0.mk hcrc
          have HNM := Aside0.mk (fun W g h => rd_Num 4 (.inr (.inr rfl)) W g ((tl.drop (N + 4)).take 4) 0 h 32 rfl)
          rw [hnum] at HNM
          simp only at HNM
          have hcr := crcI_range (tl.take (N + 4))
          have hcw : IntKind.u64.wrap (crcI (tl.take (N + 4))) = crcI (tl.take (N + 4)) := wrap_u64 _ (by omega) (by omega)
          generalize crcI (tl.take (N + 4)) = cv at *
          generalize be ((tl.drop (N + 4)).take 4) = bv at *
          generalize (tl.drop (N + 4)).take 4 = tail at *
          generalize pRec ((tl.drop 4).take N) = pr at *
          clear hpar hred hcrc hnum hcr hb4' he4' he8' hnN hN HMID HTB
          go_upto_region 9 with (first
            | (go_at_call 26; refine (HPAR.out w3 (HG.out.keep HB3.out HG.out.lt) (HH.out.keep HB3.out HH.out.lt) (Kd.C_below HC.out HB3.out)).mono ?_; rintro en w4 ⟨r, v, u, rfl, hv, hu, hy, hb⟩; have HV := Aside0.mk (Kd.R_lower hv HB3.out.size); have HU := Aside0.mk (Kd.R_lower hu HB3.out.size); have HY := Aside0.mk hy; have HB4 := Aside0.mk (HB3.out.trans (hb.mono HB3.out.size)); have HO4 := Aside0.mk (Kd.R_below HO3.out hb); obtain ⟨B1, d1, e1⟩ := Kd.R_slice hv; subst e1; obtain ⟨B2, d2, e2⟩ := Kd.R_slice hu; subst e2; clear hv hu hy hb))
          have HSC0 : Aside0 (SC w (w4.heap.size + 1) w4.heap.size u2 acc r (.slice B1 r.f4.f2.f4.length d1) (.slice B2 r.f5.length d2) (w4.alloc (.cells (recC r (.slice B1 r.f4.f2.f4.length d1) (.slice B2 r.f5.length d2)) 41))) :=
            ⟨below_alloc HB4.out _, by rw [World.size_alloc]; exact Nat.le_refl _, Kd.R_alloc (Kd.R_mono (Kd.R_bound HO4.out) (fun j hj => by have := hj.2.2.1; omega)) _, Kd.R_alloc (Kd.R_mono (Kd.R_bound HV.out) (fun j hj => by have := hj.2.2.1; omega)) _, Kd.R_alloc (Kd.R_mono (Kd.R_bound HU.out) (fun j hj => by have := hj.2.2.1; omega)) _, by omega, blk_new _ _⟩
          have HZ : Aside0 (w.heap.size ≤ w4.heap.size) := ⟨HB4.out.size⟩
          clear HV HU HO4 HB3 HO3 HB4
          obtain ⟨q, hq⟩ : ∃ q, q = w4.heap.size := ⟨_, rfl⟩
          rw [← hq] at HSC0 HZ ⊢
          clear hq
          generalize w4.alloc (.cells (recC r (.slice B1 r.f4.f2.f4.length d1) (.slice B2 r.f5.length d2)) 41) = W5 at *
          have hs2 := HS2.out
          cases pr with
          | none =>
            have HPO := Aside0.mk (HSTOP.out 150 hs2)
            have HO5 := Aside0.mk HSC0.out.row
            have HB5 := Aside0.mk HSC0.out.low
            clear hs2 HS2 HSTOP HNEXT HSC0 hcut2 hcut3 hcut4
            show Code.wp _ _ _ _ _
            simp only [Option.isSome_none]
            go_quiet (fail)
            go_wp2_with fail
            rw [Exit.noGoto_ret]
            go_ret3
            exact ⟨_, by rw [HPO.out, HAI.out]; rfl, by rw [HPO.out]; exact Kd.R_mono (Kd.R_drewN HO5.out _) (fun _ _ => trivial), pw_below_drewN HB5.out _⟩
          | some r1 =>
            have hry := HY.out r1 rfl
            subst hry
            simp only [Option.isSome_some]
            simp only at hs2
            have hv3i : IntKind.i64.wrap (e4 + 4) = e8 := by
              have h := hv3
              unfold wrap64 at h
              rw [IntKind.wrap_i64]
              exact h
            go_region_held3 (fun W' => Aside0 (SC w (q + 1) q u2 acc r (.slice B1 r.f4.f2.f4.length d1) (.slice B2 r.f5.length d2) W')) (first | assumption | exact SC.k1 (by assumption) | exact SC.k2 hb (by assumption) | exact SC.k2 hb8 (by assumption) | exact SC.k3 hg2 hge2 hge3 (by assumption))
              (first
                | (go_at_call 24; refine (HRED.out _ (Kd.C_below HC.out (Aside0.out (p := SC w (q + 1) q u2 acc r _ _ _) (by assumption)).low)).mono ?_; rintro en w6 ⟨g2, rfl, hge, hr, hb⟩; have hge2 : q + 1 ≤ g2 := Nat.le_trans HSC0.out.size hge; have hge3 : w.heap.size ≤ g2 := Nat.le_trans HSC0.out.low.size hge; have HR6 := Aside0.mk hr)
                | (go_at_call 25; refine (HNM.out _ _ HR6.out).mono ?_; rintro en w7 ⟨rfl, hr7, hg2⟩)
                | (go_at_call 27; refine (HCRC.out _ (Kd.C_below HC.out (Aside0.out (p := SC w (q + 1) q u2 acc r _ _ _) (by assumption)).low)).mono ?_; rintro en w8 ⟨rfl, hb8⟩))
            have HS8 : Aside0 (SC w (q + 1) q u2 acc r (.slice B1 r.f4.f2.f4.length d1) (.slice B2 r.f5.length d2) w8) := by assumption
            have HS2' := Aside0.mk hs2
            clear hs2 hb hb8 hg2 hr7 hge hge2 hge3 HR6 HSC0 hcut2 hcut3 hcut4 HRED HNM HCRC HPAR
            by_cases hcv : bv = cv
            · have hb1' : (bv != cv) = false := by rw [hcv]; simp
              obtain ⟨f', hf'⟩ := HNEXT.out r (N + 8) (by rw [HS2'.out, if_neg (fun h => h hcv)]) (by omega)
              have HF := Aside0.mk hf'
              obtain ⟨⟨q0, q1, q2, q3, q4, q5, q6, q7, q8, q9, q10, q11⟩, _⟩ := box12 HS8.out.box
              have HRV := Aside0.mk (Kd.R_apart' HS8.out.rv (Kd.R_typed HS8.out.row) (by decide))
              have HRU := Aside0.mk (Kd.R_apart' HS8.out.ru (Kd.R_typed HS8.out.row) (by decide))
              have HRO := Aside0.mk (Kd.R_mono HS8.out.row (ok' := fun _ => True) (fun _ _ => trivial))
              have hbnd : (acc.length + 1) * 136 ≤ 140737488355328 := by have h1 := HACC.out; have h2 := HAL.out; have h3 := HL.out; omega
              have HBND := Aside0.mk hbnd
              clear hcv hf' HNEXT HSTOP hbnd
              go_wp2_with (first | ((with_reducible refine gate_builtin (b := .append) (xs := #[.tmp 66, .tmp 68]) rfl ?_); at_builtin; go_loud (refine Kd.R_append kRec (w0 := w) w.heap.size rfl (.tmp 66) (.tmp 68) 24 41 (.agg #[(.int .i64 0), (.int .i64 0), (.int .i64 0), (.int .i64 0), (.int .i64 0), (.int .i64 0), (.int .i64 0), (.string ⟨#[]⟩), (.int .i64 0), (.int .i64 0), (.slice none 0 0), (.slice none 0 0)]) 136 rfl Tryd.underlying24 infoRec rfl (by decide) (by omega) u2 acc r [.int .i64 r.f0, .int .i64 r.f1, .int .i64 r.f2, .int .i64 r.f3, .int .i64 r.f4.f0, .int .i64 r.f4.f1, .int .i64 r.f4.f2.f0, .string r.f4.f2.f1, .int .i64 r.f4.f2.f2, .int .i64 r.f4.f2.f3, .slice B1 r.f4.f2.f4.length d1, .slice B2 r.f5.length d2] (fun _ => True) (fun k => k < q + 1 ∧ some k ≠ u2.ownBlock) rfl ?aX ?aP ?aK ?aF ?aO ?aB ?aS ?aL ?_; (case aX => first | rfl | (simp only [World.size_alloc]; rfl)); (case aP => exact k41_mkM _ _ _ r HRV.out HRU.out); (case aK => exact (fun k hk => ⟨trivial, hk.2⟩)); (case aB => exact HS8.out.low); (case aF => exact (fun _ _ => trivial)); (case aO => exact HRO.out); (case aS => exact HS8.out.low.size); (case aL => exact HBND.out); intro v7 w7' hv hw hg7 hat7; have HO7 := Aside0.mk hv; have HB7 := Aside0.mk hw; clear hv hw hg7 hat7)))
              go_roundw
              case rel =>
                refine ⟨f', a + (N + 8), e8, acc ++ [r], rfl, rfl, ⟨by rw [← HE8.out]; omega⟩, ⟨?_⟩, ⟨?_⟩, HF, HO7, HB7⟩
                · have h1 := HSH.out
                  have h2 := HTLEN.out
                  have h3 := HAL.out
                  omega
                · have h1 := HACC.out
                  rw [List.length_append, List.length_singleton]
                  omega
              case measure =>
                have h1 := HSH.out
                have h2 := HTLEN.out
                have h3 := HAL.out
                rw [← HE8.out, HAI.out]
                simp only [intOf]
                omega
            · have hb1' : (bv != cv) = true := by rw [bne_iff_ne]; exact hcv
              have HPO := Aside0.mk (HSTOP.out 150 (by rw [HS2'.out, if_pos hcv]))
              clear hcv HSTOP HNEXT HS2'
              go_wp2_with fail
              rw [Exit.noGoto_ret]
              go_ret3
              exact ⟨_, by rw [HPO.out, HAI.out]; rfl, by rw [HPO.out]; exact Kd.R_mono HS8.out.row (fun _ _ => trivial), HS8.out.low⟩
      · have hb1 : (m != nn) = true := by rw [bne_iff_ne]; exact hsp
        have HPO := Aside0.mk (HSTOP.out 150 (HQ1.out hsp))
        clear HQ1 HQ2 hsp HSTOP HNEXT
        go_wp2_with fail
        rw [Exit.noGoto_ret]
        go_ret3
        exact ⟨_, by rw [HPO.out, HAI.out]; rfl, by rw [HPO.out]; exact HO3.out, HB3.out⟩
end Go.Proofs.YtmeblifbkhpdnaaDoor.K
namespace Go.Proofs.YtmeblifbkhpdnaaDoor.K
set_option linter.unusedVariables false
set_option linter.unusedSimpArgs false
open Go.RowKit Go.Proofs.YtmeblifbkhpdnaaDoorW.PrintWords Go.Proofs.YtmeblifbkhpdnaaDoorW.PrintLast Go.Proofs.YtmeblifbkhpdnaaDoorW.PrintMore
theorem setN_same (y : Rec) (k : Nat) (hk : k < 3) (h : nVal y k = 0) : setN y k 0 = y := by
  obtain ⟨y0, y1, y2, y3, y4, y5⟩ := y
  have h1 : k = 0 ∨ k = 1 ∨ k = 2 := by omega
  rcases h1 with rfl | rfl | rfl <;> simp [nVal] at h <;> simp [setN, h]
theorem nums_step (own : Int) (z r y : Rec) (x : List Int × Int) (t : List Int) (k : Nat) (hk : k < 3) (h : pNumsN own z x k = (y, nB own r k ++ t, 0)) (hn : numOk own (nVal r k) (nWhat k) = true) (hz : nVal y k = 0) : pNumsN own z x (k + 1) = (setN y k (nVal r k), t, 0) := by
  have hr := numOk_range hn
  rw [pNumsN, h]
  unfold nB
  cases h1 : bits .and .i64 own (nWhat k) != 0
  · unfold numOk at hn
    rw [h1] at hn
    have h0 : nVal r k = 0 := by simpa using hn
    rw [h0, setN_same y k hk hz]
    rfl
  · simp only [if_true]
    rw [rVar_enc (nVal r k).toNat t (by omega)]
    simp only
    rw [Int.toNat_of_nonneg hr.1, show min (nVal r k) 9007199254740992 = nVal r k by omega]
theorem nums_enc (own : Int) (r : Rec) (t : List Int) (hn : ∀ k, k < 3 → numOk own (nVal r k) (nWhat k) = true) :
    pNumsN own (zRec r.f0) (nB own r 0 ++ (nB own r 1 ++ (nB own r 2 ++ t)), 0) 3 = (⟨r.f0, r.f1, r.f2, r.f3, zEnt, []⟩, t, 0) := by
  have h0 : pNumsN own (zRec r.f0) (nB own r 0 ++ (nB own r 1 ++ (nB own r 2 ++ t)), 0) 0 = (zRec r.f0, nB own r 0 ++ (nB own r 1 ++ (nB own r 2 ++ t)), 0) := rfl
  have h1 := nums_step own _ r _ _ _ 0 (by omega) h0 (hn 0 (by omega)) rfl
  have h2 := nums_step own _ r _ _ _ 1 (by omega) h1 (hn 1 (by omega)) rfl
  exact nums_step own _ r _ _ _ 2 (by omega) h2 (hn 2 (by omega)) rfl
theorem i64_zEnt : I64 zEnt.f2.f3 := ⟨by decide, by decide⟩
theorem recOk_kind (x : Rec) (h : recOk x = true) : x.f0 = 1 ∨ x.f0 = 2 ∨ x.f0 = 3 := by
  obtain ⟨h0, _⟩ := recOk_nums x h
  unfold rHas at h0
  split at h0
  · exact absurd rfl h0
  · split at h0
    · exact absurd rfl h0
    · omega
theorem recE_zero (x : Rec) (h : recOk x = true) : recE x = 0 := by
  unfold recE
  rw [h]
  rfl
theorem recOk_ent (x : Rec) (h : recOk x = true) : (bits .and .i64 (rHas x.f0) 4 != 0) = true → entOk x.f4 = true := fun h2 =>
  recOk_parts x h ⟨(recOk_nums x h).2, h2⟩
theorem recOk_none (x : Rec) (h : recOk x = true) (h2 : (bits .and .i64 (rHas x.f0) 4 != 0) = false) : x.f4 = zEnt := by
  unfold recOk okE at h
  simp only [Bool.and_eq_true] at h
  have h3 := h.1.2
  rw [h2] at h3
  exact (sameEnt_iff _ _).1 (by simpa using h3)
theorem recOk_norow (x : Rec) (h : recOk x = true) (h2 : (bits .and .i64 (rHas x.f0) 8 == 0) = true) : x.f5 = [] := by
  unfold recOk at h
  simp only [Bool.and_eq_true] at h
  have h3 := h.2.2.2
  rw [h2] at h3
  simp at h3
  exact h3
theorem body_eq (x : Rec) : body x = (x.f0 % 256) :: (nB (rHas x.f0) x 0 ++ (nB (rHas x.f0) x 1 ++ (nB (rHas x.f0) x 2 ++ ((if bits .and .i64 (rHas x.f0) 4 != 0 then entB x.f4 else []) ++ (if bits .and .i64 (rHas x.f0) 8 != 0 then vEnc (rowB x.f5).length ++ rowB x.f5 else []))))) := by
  unfold body bodyO
  simp only [bodyN, List.append_assoc]
  rfl
theorem rec_enc (x : Rec) (h : recOk x = true) (hw : RecW x) : pRec (body x) = some x := by
  obtain ⟨_, hn⟩ := recOk_nums x h
  have hrow := recOk_rows x h
  have hent := recOk_ent x h
  have hnone := recOk_none x h
  have hnorow := recOk_norow x h
  have hE := recE_zero x h
  have hk := recOk_kind x h
  unfold pRec
  rw [body_eq, rNum1_cons, show x.f0 % 256 = x.f0 by omega]
  simp only
  rw [nums_enc (rHas x.f0) x _ hn]
  unfold pRec1
  simp only
  rw [if_neg (by simp)]
  obtain ⟨f0, f1, f2, f3, f4, f5⟩ := x
  simp only at hk hent hnone hnorow hrow hE hw ⊢
  rcases hk with rfl | rfl | rfl
  · have e4 : (bits .and .i64 (rHas 1) 4 != 0) = false := by decide
    have e8 : (bits .and .i64 (rHas 1) 8 != 0) = false := by decide
    have h4 := hnone e4
    have h5 := hnorow (by decide)
    subst h4 h5
    rw [e4, e8]
    have : rEnd ([] : List Int) 0 = 0 := rfl
    simp [this, hE]
  · have e4 : (bits .and .i64 (rHas 2) 4 != 0) = true := by decide
    have e8 : (bits .and .i64 (rHas 2) 8 != 0) = false := by decide
    have h4 := hent e4
    have h5 := hnorow (by decide)
    subst h5
    rw [e4, e8]
    simp only [if_true, Bool.false_eq_true, if_false, List.append_nil]
    rw [ent_enc f4 h4 hw.1]
    simp [hE]
  · have e4 : (bits .and .i64 (rHas 3) 4 != 0) = false := by decide
    have e8 : (bits .and .i64 (rHas 3) 8 != 0) = true := by decide
    have h4 := hnone e4
    subst h4
    rw [e4, e8]
    simp only [if_true, Bool.false_eq_true, if_false, List.nil_append]
    have h6 := rowB_len f5 hrow.1 hw.2 hrow.2
    have h7 := rText_enc (rowB f5) [] (by omega)
    rw [List.append_nil] at h7
    rw [h7]
    simp only
    rw [rows_enc f5 hrow.1 hw.2 (by omega)]
    have : rEnd ([] : List Int) 0 = 0 := rfl
    simp [this, hE]
theorem beB2 (n : Nat) (h : n < 65536) : beB 2 n = [((n / 256 : Nat) : Int), ((n % 256 : Nat) : Int)] := by
  have : beB 2 n = [((n / 256 ^ 1 % 256 : Nat) : Int), ((n / 256 ^ 0 % 256 : Nat) : Int)] := rfl
  rw [this, Nat.pow_one, Nat.pow_zero, Nat.div_one, Nat.mod_eq_of_lt (by omega : n / 256 < 256)]
theorem beB4 (n : Nat) : beB 4 n = [((n / 16777216 % 256 : Nat) : Int), ((n / 65536 % 256 : Nat) : Int), ((n / 256 % 256 : Nat) : Int), ((n % 256 : Nat) : Int)] := by
  have : beB 4 n = [((n / 256 ^ 3 % 256 : Nat) : Int), ((n / 256 ^ 2 % 256 : Nat) : Int), ((n / 256 ^ 1 % 256 : Nat) : Int), ((n / 256 ^ 0 % 256 : Nat) : Int)] := rfl
  rw [this, Nat.pow_one, Nat.pow_zero, Nat.div_one]
theorem be2_enc (n : Nat) (t : List Int) (h : n < 65536) : be2 (beB 2 n ++ t) = (n : Int) := by
  rw [beB2 n h]
  unfold be2 be
  simp
  omega
theorem be4_enc (n : Nat) (h : n < 4294967296) : be (beB 4 n) = (n : Int) := by
  rw [beB4 n]
  unfold be
  simp only [List.foldl_cons, List.foldl_nil]
  omega
theorem beB4_dec (l : List Int) (hb : CrcMath.Bytes l) (hl : l.length = 4) : beB 4 (be l).toNat = l := by
  match l, hl with
  | [a, b, c, d], _ =>
    have ha := hb a (by simp)
    have hb' := hb b (by simp)
    have hc := hb c (by simp)
    have hd := hb d (by simp)
    have e : be [a, b, c, d] = ((a * 256 + b) * 256 + c) * 256 + d := by simp [be]
    rw [e, beB4 _]
    congr 1
    · omega
    · congr 1
      · omega
      · congr 1
        · omega
        · congr 1
          omega
theorem body_len (x : Rec) (h : recOk x = true) (hw : RecW x) : (body x).length ≤ 4591 := by
  obtain ⟨_, hn⟩ := recOk_nums x h
  have hrow := recOk_rows x h
  have e1 := bodyN_len (rHas x.f0) x 3 (Nat.le_refl _) (fun k hk => numOk_range (hn k hk))
  have e2 : (if bits .and .i64 (rHas x.f0) 4 != 0 then entB x.f4 else []).length ≤ 172 := by
    cases h4 : bits .and .i64 (rHas x.f0) 4 != 0
    · simp
    · simp only [if_true]
      exact entB_len x.f4 (recOk_ent x h h4) hw.1
  have e3 : (if bits .and .i64 (rHas x.f0) 8 != 0 then vEnc (rowB x.f5).length ++ rowB x.f5 else []).length ≤ 4388 := by
    have h6 := rowB_len x.f5 hrow.1 hw.2 hrow.2
    have h7 := vEnc_ten (rowB x.f5).length (by omega)
    split
    · rw [List.length_append]; omega
    · simp
  unfold body bodyO
  simp only [List.length_append]
  omega
theorem recB_len (x : Rec) : (recB x).length = (body x).length + 8 := by
  unfold recB sealed
  simp only [List.length_append, beB_len]
  omega
theorem scan1_enc (x : Rec) (t : List Int) (h : recOk x = true) (hw : RecW x) : scan1 (recB x ++ t) = (0, some (x, (recB x).length)) := by
  have hl := body_len x h hw
  have hrl := recB_len x
  have hc := crcI_range (sealed (body x))
  have hbe := be4_enc (crcI (sealed (body x))).toNat (by omega)
  have hx := rec_enc x h hw
  have e1 : recB x ++ t = beB 2 (body x).length ++ (beB 2 (65535 - (body x).length) ++ (body x ++ (beB 4 (crcI (sealed (body x))).toNat ++ t))) := by
    unfold recB
    conv => lhs; rw [show sealed (body x) = beB 2 (body x).length ++ beB 2 (65535 - (body x).length) ++ body x from rfl]
    simp only [List.append_assoc]
    rfl
  have e2 : recB x ++ t = sealed (body x) ++ (beB 4 (crcI (sealed (body x))).toNat ++ t) := by
    unfold recB
    rw [List.append_assoc]
  have hsl : (sealed (body x)).length = (body x).length + 4 := by
    unfold sealed
    simp only [List.length_append, beB_len]
    omega
  have h1 : be2 (recB x ++ t) = ((body x).length : Int) := by rw [e1, be2_enc _ _ (by omega)]
  have h2 : be2 ((recB x ++ t).drop 2) = ((65535 - (body x).length : Nat) : Int) := by
    rw [e1, List.drop_left' (beB_len 2 _), be2_enc _ _ (by omega)]
  have h3 : ((recB x ++ t).drop 4).take (body x).length = body x := by
    rw [e1, ← List.append_assoc, List.drop_left' (by rw [List.length_append, beB_len, beB_len]), List.take_left]
  have h4 : ((recB x ++ t).drop ((body x).length + 4)).take 4 = beB 4 (crcI (sealed (body x))).toNat := by
    rw [e2, List.drop_left' hsl, List.take_left' (beB_len 4 _)]
  have h5 : (recB x ++ t).take ((body x).length + 4) = sealed (body x) := by rw [e2, List.take_left' hsl]
  unfold scan1
  rw [if_neg (by rw [List.length_append, hrl]; omega), h1, h2, if_neg (by omega), Int.toNat_natCast, if_neg (by rw [List.length_append, hrl]; omega), h3, hx]
  simp only
  rw [h4, h5, hbe, if_neg (by omega), hrl]
end Go.Proofs.YtmeblifbkhpdnaaDoor.K
namespace Go.Proofs.YtmeblifbkhpdnaaDoor.K
set_option linter.unusedVariables false
set_option linter.unusedSimpArgs false
open Go.RowKit Go.Proofs.YtmeblifbkhpdnaaDoorW.PrintWords Go.Proofs.YtmeblifbkhpdnaaDoorW.PrintLast Go.Proofs.YtmeblifbkhpdnaaDoorW.PrintMore
theorem scan1_some (t : List Int) (x : Rec) (k : Nat) (e : Int) (h : scan1 t = (e, some (x, k))) : 8 ≤ k ∧ k ≤ t.length := by
  unfold scan1 at h
  split at h
  · simp at h
  · split at h
    · simp at h
    · split at h
      · simp at h
      · split at h
        · simp at h
        · split at h
          · simp at h
          · simp only [Prod.mk.injEq, Option.some.injEq] at h
            omega
theorem scanF_stop (f : Nat) (t : List Int) (e : Int) (h : scan1 t = (e, none)) : scanF (f + 1) t = ([], 0, e) := by
  rw [scanF, h]
theorem scanF_next (f : Nat) (t : List Int) (x : Rec) (k : Nat) (e : Int) (h : scan1 t = (e, some (x, k))) : scanF (f + 1) t = (x :: (scanF f (t.drop k)).1, k + (scanF f (t.drop k)).2.1, (scanF f (t.drop k)).2.2) := by
  rw [scanF, h]
theorem scanF_fuel : ∀ (f g : Nat) (t : List Int), t.length < f → t.length < g → scanF f t = scanF g t := by
  intro f
  induction f with
  | zero => intro g t h; omega
  | succ f ih =>
    intro g t h1 h2
    cases g with
    | zero => omega
    | succ g =>
      generalize hs : scan1 t = s
      obtain ⟨e, o⟩ := s
      cases o with
      | none => rw [scanF_stop f t e hs, scanF_stop g t e hs]
      | some x =>
        obtain ⟨x, k⟩ := x
        obtain ⟨h3, h4⟩ := scan1_some t x k e hs
        have hl : (t.drop k).length = t.length - k := List.length_drop
        rw [scanF_next f t x k e hs, scanF_next g t x k e hs, ih g (t.drop k) (by omega) (by omega)]
def jB (rs : List Rec) : List Int := rs.flatMap recB
theorem jB_cons (r : Rec) (rs : List Rec) : jB (r :: rs) = recB r ++ jB rs := rfl
def RecsOk (rs : List Rec) : Prop := ∀ r ∈ rs, recOk r = true ∧ RecW r
theorem recB_pos (x : Rec) : 8 ≤ (recB x).length := by rw [recB_len]; omega
theorem pScan_enc : ∀ (rs : List Rec) (t : List Int), RecsOk rs → pScan (jB rs ++ t) = (rs ++ (pScan t).1, (jB rs).length + (pScan t).2.1, (pScan t).2.2)
  | [], t, _ => by
    have e : jB ([] : List Rec) = [] := rfl
    rw [e]
    simp
  | r :: rs, t, h => by
    have h1 := h r (List.mem_cons_self ..)
    have ih := pScan_enc rs t (fun q hq => h q (List.mem_cons_of_mem _ hq))
    have hp := recB_pos r
    have hs := scan1_enc r (jB rs ++ t) h1.1 h1.2
    unfold pScan at ih ⊢
    rw [jB_cons, List.append_assoc]
    rw [scanF_next _ _ r _ 0 hs, List.drop_left, scanF_fuel _ ((jB rs ++ t).length + 1) _ (by rw [@List.length_append _ (recB r)]; omega) (by omega), ih, @List.length_append _ (recB r), List.cons_append, Nat.add_assoc]
theorem scan1_torn (x : Rec) (n : Nat) (h : recOk x = true) (hw : RecW x) (hn : n < (recB x).length) : scan1 ((recB x).take n) = (0, none) := by
  have hl := body_len x h hw
  have hrl := recB_len x
  have e1 : recB x = beB 2 (body x).length ++ (beB 2 (65535 - (body x).length) ++ (body x ++ beB 4 (crcI (sealed (body x))).toNat)) := by
    unfold recB
    conv => lhs; rw [show sealed (body x) = beB 2 (body x).length ++ beB 2 (65535 - (body x).length) ++ body x from rfl]
    simp only [List.append_assoc]
    rfl
  unfold scan1
  by_cases h4 : n < 4
  · rw [if_pos (by rw [List.length_take]; omega)]
  · have ht : (recB x).take n = beB 2 (body x).length ++ (beB 2 (65535 - (body x).length) ++ (body x ++ beB 4 (crcI (sealed (body x))).toNat).take (n - 4)) := by
      rw [e1, List.take_append, beB_len, List.take_of_length_le (by rw [beB_len]; omega), List.take_append, beB_len, List.take_of_length_le (by rw [beB_len]; omega)]
      rfl
    have h1 : be2 ((recB x).take n) = ((body x).length : Int) := by rw [ht, be2_enc _ _ (by omega)]
    have h2 : be2 (((recB x).take n).drop 2) = ((65535 - (body x).length : Nat) : Int) := by
      rw [ht, List.drop_left' (beB_len 2 _), be2_enc _ _ (by omega)]
    rw [if_neg (by rw [List.length_take]; omega), h1, h2, if_neg (by omega), Int.toNat_natCast, if_pos (by rw [List.length_take]; omega)]
theorem pScan_stop (t : List Int) (e : Int) (h : scan1 t = (e, none)) : pScan t = ([], 0, e) := scanF_stop _ t e h
theorem pScan_nil : pScan [] = ([], 0, 0) := rfl
theorem bytes_set {l : List Int} (hb : CrcMath.Bytes l) (k : Nat) (c : Int) (hc : 0 ≤ c ∧ c < 256) : CrcMath.Bytes (l.set k c) := by
  intro z hz
  rcases List.mem_or_eq_of_mem_set hz with h | h
  · exact hb z h
  · rw [h]; exact hc
theorem crcI_set (l : List Int) (hl : CrcMath.Bytes l) (k : Nat) (hk : k < l.length) (c : Int) (hc : 0 ≤ c ∧ c < 256) (hne : l[k] ≠ c) : crcI (l.set k c) ≠ crcI l := by
  intro h
  have h2 := CrcMath.crc_set l hl k hk c hc hne
  unfold crcI at h
  exact h2 (BitVec.eq_of_toNat_eq (by omega))
theorem beB_bytes (k n : Nat) : CrcMath.Bytes (beB k n) := by
  intro c hc
  unfold beB at hc
  obtain ⟨i, _, rfl⟩ := List.mem_map.1 hc
  omega
theorem by_app {a b : List Int} (ha : CrcMath.Bytes a) (hb : CrcMath.Bytes b) : CrcMath.Bytes (a ++ b) := by
  intro z hz
  rcases List.mem_append.1 hz with h | h
  · exact ha z h
  · exact hb z h
theorem by_cons {c : Int} {a : List Int} (hc : 0 ≤ c ∧ c < 256) (ha : CrcMath.Bytes a) : CrcMath.Bytes (c :: a) := by
  intro z hz
  rcases List.mem_cons.1 hz with rfl | h
  · exact hc
  · exact ha z h
theorem by_if {a b : List Int} {p : Prop} [Decidable p] (ha : CrcMath.Bytes a) (hb : CrcMath.Bytes b) : CrcMath.Bytes (if p then a else b) := by
  split <;> assumption
theorem by_flat {α : Type} (f : α → List Int) (l : List α) (h : ∀ x, CrcMath.Bytes (f x)) : CrcMath.Bytes (l.flatMap f) := by
  intro z hz
  obtain ⟨x, _, hx⟩ := List.mem_flatMap.1 hz
  exact h x z hx
theorem vEnc_bytes (u : Nat) : CrcMath.Bytes (vEnc u) := by
  induction u using Nat.strongRecOn with
  | _ u ih =>
    by_cases h : u < 128
    · rw [vEnc_lo u h]; exact by_cons (by omega) bytes_nil
    · rw [vEnc_hi u h]; exact by_cons (by omega) (ih (u / 128) (by omega))
theorem lineB_bytes (x : Line) : CrcMath.Bytes (lineB x) := by_app (by_app (vEnc_bytes _) (sB_bytes _)) (vEnc_bytes _)
theorem opB_bytes (o : Opn) : CrcMath.Bytes (opB o) :=
  by_app (by_app (by_app (by_app (by_cons (by omega) bytes_nil) (by_if (by_app (vEnc_bytes _) (sB_bytes _)) bytes_nil)) (by_if (vEnc_bytes _) bytes_nil)) (by_if (vEnc_bytes _) (by_if (vEnc_bytes _) bytes_nil))) (by_if (by_app (vEnc_bytes _) (by_flat _ _ lineB_bytes)) bytes_nil)
theorem entB_bytes (x : Ent) : CrcMath.Bytes (entB x) := by_app (by_app (by_cons (by omega) bytes_nil) (vEnc_bytes _)) (opB_bytes _)
theorem rowB_bytes (l : List Ent) : CrcMath.Bytes (rowB l) := by_app (vEnc_bytes _) (by_flat _ _ fun x => by_app (vEnc_bytes _) (entB_bytes _))
theorem nB_bytes (own : Int) (x : Rec) (k : Nat) : CrcMath.Bytes (nB own x k) := by_if (vEnc_bytes _) bytes_nil
theorem body_bytes (x : Rec) : CrcMath.Bytes (body x) :=
  by_app (by_app (by_app (by_app (by_app (by_cons (by omega) bytes_nil) (nB_bytes _ _ _)) (nB_bytes _ _ _)) (nB_bytes _ _ _)) (by_if (entB_bytes _) bytes_nil)) (by_if (by_app (vEnc_bytes _) (rowB_bytes _)) bytes_nil)
theorem sealed_bytes (x : Rec) : CrcMath.Bytes (sealed (body x)) := by_app (by_app (beB_bytes _ _) (beB_bytes _ _)) (body_bytes x)
theorem recB_bytes (x : Rec) : CrcMath.Bytes (recB x) := by_app (sealed_bytes x) (beB_bytes _ _)
theorem scan1_head (t : List Int) (h4 : 4 ≤ t.length) (h : be2 (t.drop 2) ≠ 65535 - be2 t) : scan1 t = (150, none) := by
  unfold scan1
  rw [if_neg (by omega), if_pos h]
theorem scan1_sum (t : List Int) (N : Nat) (hN : be2 t = (N : Int)) (h2 : be2 (t.drop 2) = 65535 - be2 t) (hl : N + 8 ≤ t.length) (h : be ((t.drop (N + 4)).take 4) ≠ crcI (t.take (N + 4))) : scan1 t = (150, none) := by
  unfold scan1
  rw [if_neg (by omega), if_neg (by omega), hN, Int.toNat_natCast, if_neg (by omega)]
  split
  · rfl
  · rw [if_pos h]
theorem two_set (a b c : Int) (k : Nat) (hk : k < 2) (ha : 0 ≤ a ∧ a < 256) (hb : 0 ≤ b ∧ b < 256) (hc : 0 ≤ c ∧ c < 256) (hne : [a, b][k]? ≠ some c) : be ([a, b].set k c) ≠ be [a, b] := by
  have : k = 0 ∨ k = 1 := by omega
  rcases this with rfl | rfl
  · simp at hne
    simp [be]
    omega
  · simp at hne
    simp [be]
    omega
theorem scan1_turned (x : Rec) (t : List Int) (k : Nat) (c : Int) (h : recOk x = true) (hw : RecW x) (hk : k < (recB x).length) (hc : 0 ≤ c ∧ c < 256) (hne : (recB x)[k] ≠ c) (ht : CrcMath.Bytes t) : scan1 ((recB x).set k c ++ t) = (150, none) := by
  have hl := body_len x h hw
  have hrl := recB_len x
  have hcr := crcI_range (sealed (body x))
  have hbe := be4_enc (crcI (sealed (body x))).toNat (by omega)
  have hsl : (sealed (body x)).length = (body x).length + 4 := by
    unfold sealed
    simp only [List.length_append, beB_len]
    omega
  have hb2 := fun n (h : n < 65536) => beB2 n h
  have e1 : recB x = beB 2 (body x).length ++ (beB 2 (65535 - (body x).length) ++ (body x ++ beB 4 (crcI (sealed (body x))).toNat)) := by
    unfold recB
    conv => lhs; rw [show sealed (body x) = beB 2 (body x).length ++ beB 2 (65535 - (body x).length) ++ body x from rfl]
    simp only [List.append_assoc]
    rfl
  have hget : (recB x)[k]? ≠ some c := by rw [List.getElem?_eq_getElem hk]; simpa using hne
  have p2 : ∀ n, n < 65536 → be (beB 2 n) = (n : Int) := fun n hn => by
    have := be2_enc n [] hn
    unfold be2 at this
    rwa [List.append_nil, List.take_of_length_le (by rw [beB_len]; omega)] at this
  have q2 : ∀ (l : List Int) (t : List Int), l.length = 2 → be2 (l ++ t) = be l := fun l t hl => by
    unfold be2
    rw [List.take_left' hl]
  have key2 : ∀ n, n < 65536 → ∀ j, j < 2 → (beB 2 n)[j]? ≠ some c → be ((beB 2 n).set j c) ≠ (n : Int) := by
    intro n hn j hj hne
    have h3 := p2 n hn
    rw [hb2 n hn] at hne h3 ⊢
    rw [← h3]
    exact two_set _ _ _ _ hj (by omega) (by omega) hc hne
  by_cases h2 : k < 2
  · have es : (recB x).set k c = (beB 2 (body x).length).set k c ++ (beB 2 (65535 - (body x).length) ++ (body x ++ beB 4 (crcI (sealed (body x))).toNat)) := by
      rw [e1, List.set_append, if_pos (by rw [beB_len]; exact h2)]
    rw [e1, List.getElem?_append_left (by rw [beB_len]; exact h2)] at hget
    have hk2 := key2 _ (by omega) k h2 hget
    refine scan1_head _ (by rw [List.length_append, List.length_set]; omega) ?_
    rw [es, List.append_assoc, q2 _ _ (by rw [List.length_set, beB_len]), List.drop_left' (by rw [List.length_set, beB_len]), List.append_assoc, q2 _ _ (beB_len 2 _), p2 _ (by omega)]
    omega
  · by_cases h4 : k < 4
    · have es : (recB x).set k c = beB 2 (body x).length ++ ((beB 2 (65535 - (body x).length)).set (k - 2) c ++ (body x ++ beB 4 (crcI (sealed (body x))).toNat)) := by
        rw [e1, List.set_append, if_neg (by rw [beB_len]; exact h2), beB_len, List.set_append, if_pos (by rw [beB_len]; omega)]
      rw [e1, List.getElem?_append_right (by rw [beB_len]; omega), beB_len, List.getElem?_append_left (by rw [beB_len]; omega)] at hget
      have hk2 := key2 _ (by omega) (k - 2) (by omega) hget
      refine scan1_head _ (by rw [List.length_append, List.length_set]; omega) ?_
      rw [es, List.append_assoc, q2 _ _ (beB_len 2 _), List.drop_left' (beB_len 2 _), List.append_assoc, q2 _ _ (by rw [List.length_set, beB_len]), p2 _ (by omega)]
      omega
    · have hhead : ∀ u : List Int, be2 (beB 2 (body x).length ++ (beB 2 (65535 - (body x).length) ++ u)) = ((body x).length : Int) ∧ be2 ((beB 2 (body x).length ++ (beB 2 (65535 - (body x).length) ++ u)).drop 2) = 65535 - ((body x).length : Int) := by
        intro u
        refine ⟨by rw [q2 _ _ (beB_len 2 _), p2 _ (by omega)], ?_⟩
        rw [List.drop_left' (beB_len 2 _), q2 _ _ (beB_len 2 _), p2 _ (by omega)]
        omega
      have es : (recB x).set k c = beB 2 (body x).length ++ (beB 2 (65535 - (body x).length) ++ (body x ++ beB 4 (crcI (sealed (body x))).toNat).set (k - 4) c) := by
        rw [e1, List.set_append, if_neg (by rw [beB_len]; exact h2), beB_len, List.set_append, if_neg (by rw [beB_len]; omega), beB_len]
        rfl
      have hh : be2 ((recB x).set k c ++ t) = ((body x).length : Int) ∧ be2 (((recB x).set k c ++ t).drop 2) = 65535 - ((body x).length : Int) := by
        rw [es, List.append_assoc, List.append_assoc]
        exact hhead _
      refine scan1_sum _ (body x).length hh.1 (by rw [hh.2, hh.1]) (by rw [List.length_append, List.length_set]; omega) ?_
      by_cases h5 : k < (body x).length + 4
      · have es2 : (recB x).set k c = (sealed (body x)).set k c ++ beB 4 (crcI (sealed (body x))).toNat := by
          unfold recB
          rw [List.set_append, if_pos (by omega)]
        rw [es2, List.append_assoc, List.drop_left' (by rw [List.length_set]; exact hsl), List.take_left' (beB_len 4 _), List.take_left' (by rw [List.length_set]; exact hsl), hbe]
        have hge : (recB x)[k]? = (sealed (body x))[k]? := by unfold recB; rw [List.getElem?_append_left (by omega)]
        rw [hge, List.getElem?_eq_getElem (by omega)] at hget
        have h6 := crcI_set (sealed (body x)) (sealed_bytes x) k (by omega) c hc (fun e => hget (by rw [e]))
        omega
      · have es2 : (recB x).set k c = sealed (body x) ++ (beB 4 (crcI (sealed (body x))).toNat).set (k - ((body x).length + 4)) c := by
          unfold recB
          rw [List.set_append, if_neg (by omega), hsl]
        rw [es2, List.append_assoc, List.drop_left' hsl, List.take_left' (by rw [List.length_set, beB_len]), List.take_left' hsl]
        have hge : (recB x)[k]? = (beB 4 (crcI (sealed (body x))).toNat)[k - ((body x).length + 4)]? := by unfold recB; rw [List.getElem?_append_right (by omega), hsl]
        rw [hge] at hget
        intro h6
        have h7 := beB4_dec ((beB 4 (crcI (sealed (body x))).toNat).set (k - ((body x).length + 4)) c) (bytes_set (beB_bytes _ _) _ _ hc) (by rw [List.length_set, beB_len])
        rw [h6] at h7
        apply hget
        rw [h7, List.getElem?_set_self (by rw [beB_len]; omega)]
end Go.Proofs.YtmeblifbkhpdnaaDoor.K
namespace Go.Proofs.YtmeblifbkhpdnaaDoor.K
set_option linter.unusedVariables false
set_option linter.unusedSimpArgs false
open Go.RowKit Go.Proofs.YtmeblifbkhpdnaaDoorW.PrintWords Go.Proofs.YtmeblifbkhpdnaaDoorW.PrintLast Go.Proofs.YtmeblifbkhpdnaaDoorW.PrintMore
def gimbalref00_EqBytes.f (l0 : List Int) (l1 : List Int) : Option (Bool) := some ((strOfNums l0).toList == (strOfNums l1).toList)
set_option maxHeartbeats 8000000 in
set_option maxRecDepth 100000 in
theorem gimbalref00_EqBytes.calls (A0 : Option Addr) (c0 : Nat) (l0 : List Int) (A1 : Option Addr) (c1 : Nat) (l1 : List Int) (r : Bool) (w : World) (hr0 : Kd.C (Kd.int .u8) w A0 l0.length l0) (hc0 : l0.length ≤ c0) (hr1 : Kd.C (Kd.int .u8) w A1 l1.length l1) (hc1 : l1.length ≤ c1) (h : gimbalref00_EqBytes.f l0 l1 = some r) :
    Calls Tryd.prog 12 #[.slice A0 l0.length c0, .slice A1 l1.length c1] w fun e w' => e = .returned (.bool r) ∧ Drawn0 w w' := by
  have HR0 := Aside0.mk hr0
  have HC0 := Aside0.mk hc0
  clear hr0 hc0
  have HR1 := Aside0.mk hr1
  have HC1 := Aside0.mk hc1
  clear hr1 hc1
  have H : (some ((strOfNums l0).toList == (strOfNums l1).toList)) = some r := h
  clear h
  obtain rfl := Option.some.inj H
  have hcv3 := Kd.C_string (P := Tryd.prog) (A := A0) (c := c0) Tryd.underlying22 Tryd.underlying5 Tryd.underlying9 HR0.out
  have hcv4 := Kd.C_string (P := Tryd.prog) (A := A1) (c := c1) Tryd.underlying22 Tryd.underlying5 Tryd.underlying9 HR1.out
  go_enter Tryd.func12, Tryd.ntmps12
  go_wp2
  go_ret
  exact ⟨by first | rfl | (simp; done) | (simp [*]; done), by repeat (first | exact Drawn0.refl _ | apply Drawn0.step)⟩
def r0 : Rec := ⟨1, 300, 1, 0, zEnt, []⟩
theorem r0_ok : recOk r0 = true := by
  have h : sameEnt zEnt zEnt = true := (sameEnt_iff _ _).2 rfl
  have h2 : okN (rHas r0.f0) r0 3 = true := by decide
  have h3 : (bits .and .i64 (rHas r0.f0) 4 != 0) = false := by decide
  unfold recOk okE
  rw [h2, h3]
  simp only [Bool.false_eq_true, if_false]
  rw [show r0.f4 = zEnt from rfl, h]
  decide
theorem r0_w : RecW r0 := ⟨i64_zEnt, by simp [r0]⟩
theorem r0_body : body r0 = [1, 172, 2, 1] := by
  have h1 : vEnc 300 = [172, 2] := by rw [vEnc_hi 300 (by omega), vEnc_lo _ (by omega)]; rfl
  have h2 : vEnc 1 = [1] := vEnc_lo 1 (by omega)
  rw [body_eq]
  have a0 : nB (rHas r0.f0) r0 0 = [] := by unfold nB; rw [if_neg (by decide)]
  have a1 : nB (rHas r0.f0) r0 1 = vEnc 300 := by unfold nB; rw [if_pos (by decide)]; rfl
  have a2 : nB (rHas r0.f0) r0 2 = vEnc 1 := by unfold nB; rw [if_pos (by decide)]; rfl
  have a3 : (bits .and .i64 (rHas r0.f0) 4 != 0) = false := by decide
  have a4 : (bits .and .i64 (rHas r0.f0) 8 != 0) = false := by decide
  rw [a0, a1, a2, a3, a4, h1, h2]
  rfl
theorem r0_bytes : ∃ t : List Int, recB r0 = [0, 4, 255, 251, 1, 172, 2, 1] ++ t ∧ t.length = 4 := by
  refine ⟨beB 4 (crcI (sealed (body r0))).toNat, ?_, beB_len 4 _⟩
  unfold recB
  rw [r0_body]
  rfl
theorem r0_len : (recB r0).length = 12 := by
  obtain ⟨t, h, hl⟩ := r0_bytes
  rw [h, List.length_append, hl]
  rfl
theorem r0_scan : pScan (recB r0) = ([r0], 12, 0) := by
  have h := pScan_enc [r0] [] (by intro r hr; rw [List.mem_singleton.1 hr]; exact ⟨r0_ok, r0_w⟩)
  have e : jB [r0] = recB r0 := List.append_nil _
  rw [e, List.append_nil, r0_len, pScan_nil] at h
  exact h
theorem r0_torn : pScan ((recB r0).take 11) = ([], 0, 0) := pScan_stop _ 0 (scan1_torn r0 11 r0_ok r0_w (by rw [r0_len]; omega))
theorem r0_turned : pScan ((recB r0).set 0 1) = ([], 0, 150) := by
  have hg : (recB r0)[0]? = some 0 := by
    obtain ⟨t, h, hl⟩ := r0_bytes
    rw [h]
    rfl
  have h := scan1_turned r0 [] 0 1 r0_ok r0_w (by rw [r0_len]; omega) (by omega) (by rw [List.getElem?_eq_getElem (by rw [r0_len]; omega)] at hg; rw [Option.some.inj hg]; omega) bytes_nil
  rw [List.append_nil] at h
  exact pScan_stop _ 150 h
theorem r0_three : pScan [0, 4, 255] = ([], 0, 0) := rfl
theorem eqBytes_same (w : World) (A0 : Option Addr) (c0 : Nat) (l0 : List Int) (A1 : Option Addr) (c1 : Nat) (l1 : List Int) (hr0 : Kd.C (Kd.int .u8) w A0 l0.length l0) (hc0 : l0.length ≤ c0) (hr1 : Kd.C (Kd.int .u8) w A1 l1.length l1) (hc1 : l1.length ≤ c1) (h : l0 = l1) :
    Calls Tryd.prog 12 #[.slice A0 l0.length c0, .slice A1 l1.length c1] w fun e w' => e = .returned (.bool true) ∧ Below w.heap.size w w' :=
  (gimbalref00_EqBytes.calls A0 c0 l0 A1 c1 l1 true w hr0 hc0 hr1 hc1 (by unfold gimbalref00_EqBytes.f; rw [h]; simp)).mono fun e w' h => ⟨h.1, h.2.below⟩
theorem scan_told (l : List Int) (rs : List Rec) (n : Nat) (e : Int) (hp : pScan l = (rs, n, e)) (hb : CrcMath.Bytes l) (hl : l.length < 1099511627776) (w : World) (hG : GItem w) (hH : GRec w) (A : Option Addr) (c : Nat) (hC : Kd.C (Kd.int .u8) w A l.length l) (hc : l.length ≤ c) :
    Calls Tryd.prog 9 #[.slice A l.length c] w fun en w' => ∃ A' c', en = .returned (.tuple #[.slice A' rs.length c', .int .i64 (n : Int), .int .i64 e]) ∧ Kd.R kRec 41 w' w.heap.size (fun _ => True) (.slice A' rs.length c') rs ∧ Below w.heap.size w w' := by
  refine (record_Scan w A c l hG hH hC hc hb hl).mono ?_
  rintro en w' ⟨v, h1, h2, h3⟩
  rw [hp] at h1 h2
  obtain ⟨A', c', rfl⟩ := Kd.R_slice h2
  exact ⟨A', c', h1, h2, h3⟩
theorem view_cell {w : World} {base : Nat} {A : Option Addr} {c : Nat} (hR : Kd.R kRec 41 w base (fun _ => True) (.slice A [r0].length c) [r0]) : ∃ g : Nat, A = some ⟨g, 0, none⟩ ∧ base ≤ g ∧ w.cell? ⟨g, 1, none⟩ = some (.int .i64 300) := by
  obtain ⟨g, c', h1, h2, h3, h4⟩ := Kd.R_form hR (by simp)
  injection h1 with h5 h6 h7
  subst h5
  obtain ⟨_, _, hC⟩ := Kd.R_reads' hR
  obtain ⟨ad, _, _, _, _, e, _, h8, _⟩ := at_T41 hC 0 (by omega) (by simp)
  have e := Option.some.inj e
  subst e
  exact ⟨g, rfl, h2, h8⟩
set_option maxRecDepth 20000 in
set_option maxHeartbeats 8000000 in
theorem works_runs (w : World) (hG : GItem w) (hH : GRec w) : Calls Tryd.prog 13 #[] w fun en w' => en = .returned (.bool true) ∧ Below w.heap.size w w' := by
  have HG := Aside0.mk hG
  have HH := Aside0.mk hH
  have HM := Aside0.mk (record_Bytes w none none 0 0 r0 hG hH (Kd.C_nil _ _) (Nat.le_refl _) (Kd.C_nil _ _) (Nat.le_refl _) r0_w)
  clear hG hH
  have hE : recE r0 = 0 := recE_zero r0 r0_ok
  have hR : recR r0 = recB r0 := by unfold recR; rw [r0_ok]; rfl
  rw [hE, hR] at HM
  clear hE hR
  generalize hb0 : recB r0 = b0 at HM
  have hlen : b0.length = 12 := by rw [← hb0]; exact r0_len
  have HLEN := Aside0.mk hlen
  have HB0 := Aside0.mk hb0
  clear hlen hb0
  go_enter Tryd.func13, Tryd.ntmps13
  go_upto_region 2 with (first | (go_at_call 14; refine HM.out.mono ?_; rintro en w1 ⟨v, rfl, hv, hb⟩; have HO := Aside0.mk hv; have HB := Aside0.mk hb; clear hv hb))
  have HG1 := Aside0.mk (HG.out.below HB.out)
  have HH1 := Aside0.mk (HH.out.below HB.out)
  clear HM
  obtain ⟨g, c, rfl, hg0, hg1, hg2⟩ := Kd.R_form HO.out (by rw [HLEN.out]; omega)
  have HGB := Aside0.mk hg0
  have HGL := Aside0.mk hg1
  clear hg0 hg1 hg2
  -- the cut of eight bytes
  obtain ⟨hc8, hC8, hl8⟩ := bytes_take .i64 (some ⟨g, 0, none⟩) c b0 8 (by rw [HLEN.out]; omega) (Kd.R_reads' HO.out).2.1
  obtain ⟨hc11, hC11, hl11⟩ := bytes_take .i64 (some ⟨g, 0, none⟩) c b0 11 (by rw [HLEN.out]; omega) (Kd.R_reads' HO.out).2.1
  have HC8 := Aside0.mk hC8
  have HC11 := Aside0.mk hC11
  have HL8 := Aside0.mk hl8
  have HL11 := Aside0.mk hl11
  rw [HLEN.out] at hc8 hc11 HO ⊢
  clear hC8 hC11 hl8 hl11
  replace hc8 : ∀ W : World, (Instr.slice 22 (.slice (some ⟨g, 0, none⟩) 12 c) none (some (.int .i64 8)) none).run Tryd.prog W = .ok (.slice (some ⟨g, 0, none⟩) 8 c) W := hc8
  replace hc11 : ∀ W : World, (Instr.slice 22 (.slice (some ⟨g, 0, none⟩) 12 c) none (some (.int .i64 11)) none).run Tryd.prog W = .ok (.slice (some ⟨g, 0, none⟩) 11 c) W := hc11
  have hEQ : ∀ W : World, Below w1.heap.size w1 W → Calls Tryd.prog 12 #[.slice (some ⟨g, 0, none⟩) 8 c, .slice (some ⟨W.heap.size, 0, none⟩) 8 8] (W.alloc (.cells (nums .u8 [0, 4, 255, 251, 1, 172, 2, 1]).toArray 5)) fun e w' => e = .returned (.bool true) ∧ Below (W.alloc (.cells (nums .u8 [0, 4, 255, 251, 1, 172, 2, 1]).toArray 5)).heap.size (W.alloc (.cells (nums .u8 [0, 4, 255, 251, 1, 172, 2, 1]).toArray 5)) w' := by
    intro W hW
    have hW2 := below_alloc hW (.cells (nums .u8 [0, 4, 255, 251, 1, 172, 2, 1]).toArray 5)
    have h1 := Kd.C_below (HC8.out _ (Kd.R_reads' HO.out).2.2) hW2
    have h2 := lit_C .u8 W 5 (0, 0) [0, 4, 255, 251, 1, 172, 2, 1] (by decide)
    have h3 := eqBytes_same _ _ c (b0.take 8) _ 8 [0, 4, 255, 251, 1, 172, 2, 1] h1 (by rw [HL8.out]; have := (Kd.R_reads' HO.out).2.1; omega) h2 (Nat.le_refl _) (by
      obtain ⟨t, ht, _⟩ := r0_bytes
      rw [← HB0.out, ht]
      rfl)
    rw [HL8.out] at h3
    exact h3
  have HEQ := Aside0.mk hEQ
  clear hEQ
  go_upto_region 4 with (first | (go_at_call 12; refine (HEQ.out _ (Below.refl _ _)).mono ?_; rintro en w2 ⟨rfl, hb⟩; have HB2 := Aside0.mk (bnext (Below.refl _ _) _ hb); clear hb))
  clear HEQ HC8 HL8 hc8
  -- the first Scan
  have HC12 := Aside0.mk (Kd.R_reads' HO.out).2
  have HS1 := Aside0.mk (scan_told b0 [r0] 12 0 (by rw [← HB0.out]; exact r0_scan) (by rw [← HB0.out]; exact recB_bytes r0) (by rw [HLEN.out]; omega) w2 (HG1.out.below HB2.out) (HH1.out.below HB2.out) (some ⟨g, 0, none⟩) c (Kd.C_below HC12.out.2 HB2.out) (by rw [HLEN.out]; exact HC12.out.1))
  rw [HLEN.out] at HS1
  go_upto_region 5 with (first | (go_at_call 9; refine HS1.out.mono ?_; rintro en w3 ⟨A1, c1, rfl, hv, hb⟩; have HV := Aside0.mk hv; have HB3 := Aside0.mk (HB2.out.trans (hb.mono HB2.out.size)); clear hv hb))
  clear HS1
  obtain ⟨g1, rfl, hg1, hvc⟩ := view_cell HV.out
  have HVC := Aside0.mk hvc
  have HGE := Aside0.mk (Nat.le_trans HB2.out.size hg1)
  clear hvc hg1 HV HB2
  -- the second
  have HS2 := Aside0.mk (scan_told (b0.take 11) [] 0 0 (by rw [← HB0.out]; exact r0_torn) (fun z hz => recB_bytes r0 z (by rw [HB0.out]; exact List.mem_of_mem_take hz)) (by rw [HL11.out]; omega) w3 (HG1.out.below HB3.out) (HH1.out.below HB3.out) (some ⟨g, 0, none⟩) c (Kd.C_below (HC11.out _ HC12.out.2) HB3.out) (by rw [HL11.out]; have := HC12.out.1; omega))
  rw [HL11.out] at HS2
  go_upto_region 6 with (first | (go_at_call 9; refine HS2.out.mono ?_; rintro en w4 ⟨A2, c2, rfl, _, hb⟩; have HB4 := Aside0.mk (HB3.out.trans (hb.mono HB3.out.size)); have HVC4 := Aside0.mk ((hb.cell (cell_blk HVC.out)).trans HVC.out); clear hb))
  clear HS2 HVC HB3 HC11 HL11 hc11 HC12
  -- the store
  have hO4 := Kd.R_below HO.out HB4.out
  obtain ⟨hcell, hfro⟩ := Kd.R_celln 0 hO4 0 (by omega) (by omega)
  obtain ⟨hO5, hg5⟩ := Kd.R_putg hO4 0 1
  replace hO5 : Kd.R (Kd.int .u8) 5 (w4.setCell ⟨g, 0, none⟩ (.int .u8 1)) w.heap.size (fun _ => True) (.slice (some ⟨g, 0, none⟩) 12 c) (b0.set 0 1) := hO5
  replace hg5 : w4.grownBy (w4.setCell ⟨g, 0, none⟩ (.int .u8 1)) (some g) := hg5
  have hB5 : Below w.heap.size w (w4.setCell ⟨g, 0, none⟩ (.int .u8 1)) := below_grownG (HB.out.trans (HB4.out.mono HB.out.size)) hg5 HGB.out
  have HO5 := Aside0.mk hO5
  have HB5 := Aside0.mk hB5
  clear hO4 hO5 hg5 hB5 HO HB4 HB
  replace hcell : w4.cell? ⟨g, 0, none⟩ = some (.int .u8 (rd b0 0)) := hcell
  replace hfro : w4.frozen? ⟨g, 0, none⟩ = false := hfro
  have HVC5 := Aside0.mk ((World.cell?_setCell_far w4 ⟨g, 0, none⟩ ⟨g1, 1, none⟩ (.int .u8 1) (by have := HGL.out; have := HGE.out; show g ≠ g1; omega)).trans HVC4.out)
  go_upto_region 7 with fail
  clear hcell hfro HVC4 HGE HGL HG1 HH1
  generalize w4.setCell ⟨g, 0, none⟩ (.int .u8 1) = w5 at *
  -- the third
  have hl5 : (b0.set 0 1).length = 12 := by rw [List.length_set, HLEN.out]
  have hC5 := (Kd.R_reads' HO5.out).2
  have HS3 := Aside0.mk (scan_told (b0.set 0 1) [] 0 150 (by rw [← HB0.out]; exact r0_turned) (by rw [← HB0.out]; exact bytes_set (recB_bytes r0) 0 1 (by omega)) (by rw [hl5]; omega) w5 (HG.out.below HB5.out) (HH.out.below HB5.out) (some ⟨g, 0, none⟩) c hC5.2 (by rw [hl5]; exact hC5.1))
  rw [hl5] at HS3
  clear hl5 hC5
  go_upto_region 8 with (first | (go_at_call 9; refine HS3.out.mono ?_; rintro en w6 ⟨A3, c3, rfl, _, hb⟩; have HB6 := Aside0.mk (HB5.out.trans (hb.mono HB5.out.size)); have HVC6 := Aside0.mk ((hb.cell (cell_blk HVC5.out)).trans HVC5.out); clear hb))
  clear HS3 HVC5 HB5 HO5
  -- the fourth
  have hB7 := below_alloc (Below.refl w6.heap.size w6) (.cells (nums .u8 [0, 4, 255]).toArray 5)
  have HB7 := Aside0.mk (HB6.out.trans (hB7.mono HB6.out.size))
  have HVC7 := Aside0.mk ((hB7.cell (cell_blk HVC6.out)).trans HVC6.out)
  have HS4 := Aside0.mk (scan_told [0, 4, 255] [] 0 0 r0_three (by intro z hz; simp at hz; omega) (by decide) (w6.alloc (.cells (nums .u8 [0, 4, 255]).toArray 5)) (HG.out.below HB7.out) (HH.out.below HB7.out) (some ⟨w6.heap.size, 0, none⟩) 3 (lit_C .u8 w6 5 (0, 0) [0, 4, 255] (by decide)) (Nat.le_refl _))
  clear hB7 HVC6 HB6
  go_upto_region 9 with (first | (go_at_call 9; refine HS4.out.mono ?_; rintro en w8 ⟨A4, c4, rfl, _, hb⟩; have HB8 := Aside0.mk (HB7.out.trans (hb.mono HB7.out.size)); have hvc8 := (hb.cell (cell_blk HVC7.out)).trans HVC7.out; clear hb))
  clear HS4 HVC7 HB7 HG HH
  go_wp2_with fail
  go_ret
  exact ⟨rfl, HB8.out⟩
end Go.Proofs.YtmeblifbkhpdnaaDoor.K
