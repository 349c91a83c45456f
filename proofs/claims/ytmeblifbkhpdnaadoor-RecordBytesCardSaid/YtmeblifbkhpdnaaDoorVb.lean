/- Texts of this claim, put together: what its theorem does not use is left out. No conditions. -/
import Derived.Test.YtmeblifbkhpdnaaDoorProg
import Derived.Below
import Derived.Deep.Draws
import Derived.Deep.AppendLies
import Derived.Maps.AppendAt
import Derived.OwnWalk
import Derived.Laws.BytesArg
import Derived.Laws.MakeOwn
import Derived.Laws.OwnMore
import Derived.Deep.OwnRows
import Derived.Tactics
import Derived.Lib.ConvBytes
import Derived.Laws.Slices
import Derived.WalkKit
import Derived.KernelRfl
import Derived.RowKit3
import Derived.Deep.LoopGhost
import Derived.Deep.QuietTactic
import Derived.BigQuiet
import Derived.WideLaws
import Derived.Deep.DeepCutAuto
import Derived.Deep.CutBlock
import Derived.Deep.RegionHeld3
import Derived.Laws.Rows
import Derived.Lib.AppendStr
import Derived.ArgAppend
import Derived.Laws.IdiomCopy
import Derived.OrdersHeld
import Derived.Laws.BitsLemmas
import Derived.RowKit
import Derived.Test.YtmeblifbkhpdnaaDoorVa
import Derived.Lib.LazyBuf
import Derived.Laws.Tables
import Derived.Laws.CopyOwn
import Derived.Lib.SlBytesConst
import Derived.Lib.SmallJoins
import Derived.RegionTactic
import Derived.BigRegion
import Derived.WalkSpells
import Derived.Shelf.GgClosure.StringsIndexFunc
import Derived.Ground.GgwProg
import Derived.Shelf.GgClosure.StringsIndexFuncTop
import Derived.Shelf.GgClosure.StringsRunes
import Derived.Maps.OwnOps
import Derived.Maps.OwnSet
import Derived.Laws.ResultCell
namespace CrcMath
def poly : BitVec 32 := 0xEDB88320#32
def st1 (n : BitVec 32) : BitVec 32 := (n >>> 1) ^^^ (if n.getLsbD 0 then poly else 0#32)
def stN : Nat → BitVec 32 → BitVec 32
  | 0, n => n
  | k + 1, n => stN k (st1 n)
theorem poly_top : poly.getLsbD 31 = true := by decide
theorem st1_xor (a b : BitVec 32) : st1 (a ^^^ b) = st1 a ^^^ st1 b := by
  unfold st1
  rw [BitVec.ushiftRight_xor_distrib, BitVec.getLsbD_xor]
  generalize a >>> 1 = x
  generalize b >>> 1 = y
  cases a.getLsbD 0 <;> cases b.getLsbD 0 <;> simp only [Bool.xor_false, Bool.xor_true, Bool.not_true, Bool.not_false, if_true, if_false, BitVec.xor_zero, Bool.false_eq_true]
  · ac_rfl
  · ac_rfl
  · have : x ^^^ poly ^^^ (y ^^^ poly) = x ^^^ y ^^^ (poly ^^^ poly) := by ac_rfl
    rw [this, BitVec.xor_self, BitVec.xor_zero]
theorem st1_top (a : BitVec 32) : (st1 a).getLsbD 31 = a.getLsbD 0 := by
  unfold st1
  rw [BitVec.getLsbD_xor, BitVec.getLsbD_ushiftRight]
  have h : a.getLsbD (1 + 31) = false := BitVec.getLsbD_of_ge _ _ (by omega)
  rw [h]
  cases a.getLsbD 0
  · simp
  · simp [poly_top]
theorem st1_eq_zero {a : BitVec 32} (h : st1 a = 0#32) : a = 0#32 := by
  have h0 : a.getLsbD 0 = false := by
    rw [← st1_top, h]; simp
  unfold st1 at h
  rw [h0] at h
  simp at h
  apply BitVec.eq_of_getLsbD_eq
  intro i hi
  rw [BitVec.getLsbD_zero]
  cases i with
  | zero => exact h0
  | succ i =>
    have := congrArg (fun x => BitVec.getLsbD x i) h
    simpa [BitVec.getLsbD_ushiftRight, Nat.add_comm] using this
theorem xor_eq_zero {a b : BitVec 32} (h : a ^^^ b = 0#32) : a = b := by
  have : a ^^^ b ^^^ b = 0#32 ^^^ b := by rw [h]
  rw [BitVec.xor_assoc, BitVec.xor_self, BitVec.xor_zero, BitVec.zero_xor] at this
  exact this
theorem st1_inj {a b : BitVec 32} (h : st1 a = st1 b) : a = b := by
  apply xor_eq_zero
  apply st1_eq_zero
  rw [st1_xor, h, BitVec.xor_self]
theorem stN_xor (k : Nat) : ∀ a b, stN k (a ^^^ b) = stN k a ^^^ stN k b := by
  induction k with
  | zero => intro a b; rfl
  | succ k ih => intro a b; simp only [stN]; rw [st1_xor, ih]
theorem stN_inj (k : Nat) : ∀ {a b}, stN k a = stN k b → a = b := by
  induction k with
  | zero => intro a b h; exact h
  | succ k ih => intro a b h; exact st1_inj (ih h)
theorem stN_add (i j : Nat) : ∀ n, stN (i + j) n = stN j (stN i n) := by
  induction i with
  | zero => intro n; rw [Nat.zero_add]; rfl
  | succ i ih => intro n; rw [Nat.succ_add]; simp only [stN]; rw [ih]
theorem stN_succ' (k : Nat) (n : BitVec 32) : stN (k + 1) n = st1 (stN k n) := by
  rw [stN_add k 1]; rfl
theorem st1_shl (m : BitVec 32) (h : m.getLsbD 31 = false) : st1 (m <<< 1) = m := by
  unfold st1
  have h0 : (m <<< 1).getLsbD 0 = false := by simp
  rw [h0]
  simp
  apply BitVec.eq_of_getLsbD_eq
  intro i hi
  rw [BitVec.getLsbD_ushiftRight, BitVec.getLsbD_shiftLeft]
  by_cases hi' : i = 31
  · subst hi'; rw [h]; simp
  · have : 1 + i < 32 := by omega
    simp [this]
theorem stN_shl (j : Nat) : ∀ (m : BitVec 32), (∀ i, 32 - j ≤ i → m.getLsbD i = false) → stN j (m <<< j) = m := by
  induction j with
  | zero => intro m _; simp [stN]
  | succ j ih =>
    intro m h
    have e : m <<< (j + 1) = (m <<< j) <<< 1 := by rw [BitVec.shiftLeft_add]
    rw [e]
    simp only [stN]
    rw [st1_shl, ih m (fun i hi => h i (by omega))]
    rw [BitVec.getLsbD_shiftLeft]
    by_cases hj : 31 < j
    · simp [hj]
    · have := h (31 - j) (by omega)
      simp [this]
def byteS (n : BitVec 32) (c : Int) : BitVec 32 := stN 8 (n ^^^ BitVec.ofInt 32 c)
def crcS (n : BitVec 32) (l : List Int) : BitVec 32 := l.foldl byteS n
def ones : BitVec 32 := 0xFFFFFFFF#32
def crc (l : List Int) : BitVec 32 := crcS ones l ^^^ ones
def Bytes (l : List Int) : Prop := ∀ c ∈ l, 0 ≤ c ∧ c < 256
theorem crcS_append (s : BitVec 32) (l m : List Int) : crcS s (l ++ m) = crcS (crcS s l) m := List.foldl_append ..
theorem byteS_inj_left {n m : BitVec 32} {c : Int} (h : byteS n c = byteS m c) : n = m := by
  have := stN_inj 8 h
  apply xor_eq_zero
  have h2 : n ^^^ BitVec.ofInt 32 c ^^^ (m ^^^ BitVec.ofInt 32 c) = n ^^^ m := by
    have : n ^^^ BitVec.ofInt 32 c ^^^ (m ^^^ BitVec.ofInt 32 c) = n ^^^ m ^^^ (BitVec.ofInt 32 c ^^^ BitVec.ofInt 32 c) := by ac_rfl
    rw [this, BitVec.xor_self, BitVec.xor_zero]
  rw [← h2, this, BitVec.xor_self]
theorem crcS_inj (l : List Int) : ∀ {n m}, crcS n l = crcS m l → n = m := by
  induction l with
  | nil => intro n m h; exact h
  | cons c l ih => intro n m h; exact byteS_inj_left (ih h)
theorem crc_inj_iff (l m : List Int) : crc l = crc m ↔ crcS ones l = crcS ones m := by
  unfold crc
  constructor
  · intro h
    have : crcS ones l ^^^ ones ^^^ ones = crcS ones m ^^^ ones ^^^ ones := by rw [h]
    rwa [BitVec.xor_assoc, BitVec.xor_assoc, BitVec.xor_self, BitVec.xor_zero, BitVec.xor_zero] at this
  · intro h; rw [h]
theorem crc_set (l : List Int) (hl : Bytes l) (k : Nat) (hk : k < l.length) (c : Int) (hc : 0 ≤ c ∧ c < 256) (hne : l[k] ≠ c) : crc l ≠ crc (l.set k c) := by
  intro h
  rw [crc_inj_iff] at h
  have e1 : l = l.take k ++ l[k] :: l.drop (k + 1) := by rw [List.getElem_cons_drop, List.take_append_drop]
  have e2 : l.set k c = l.take k ++ c :: l.drop (k + 1) := List.set_eq_take_append_cons_drop.trans (by rw [if_pos hk])
  rw [e2] at h
  conv at h => lhs; rw [e1]
  rw [crcS_append, crcS_append] at h
  have h2 : byteS (crcS ones (l.take k)) l[k] = byteS (crcS ones (l.take k)) c := crcS_inj (l.drop (k + 1)) h
  have h3 := stN_inj 8 h2
  have h4 : BitVec.ofInt 32 l[k] = BitVec.ofInt 32 c := by
    have : crcS ones (l.take k) ^^^ (crcS ones (l.take k) ^^^ BitVec.ofInt 32 l[k]) = crcS ones (l.take k) ^^^ (crcS ones (l.take k) ^^^ BitVec.ofInt 32 c) := by rw [h3]
    rwa [← BitVec.xor_assoc, ← BitVec.xor_assoc, BitVec.xor_self, BitVec.zero_xor, BitVec.zero_xor] at this
  have h5 := congrArg BitVec.toNat h4
  have hk2 := hl l[k] (List.getElem_mem hk)
  rw [BitVec.toNat_ofInt, BitVec.toNat_ofInt] at h5
  apply hne
  omega
end CrcMath
namespace Go.Proofs.YtmeblifbkhpdnaaDoor.K
set_option linter.unusedVariables false
set_option linter.unusedSimpArgs false
open Go.RowKit Go.Proofs.YtmeblifbkhpdnaaDoorW.PrintWords Go.Proofs.YtmeblifbkhpdnaaDoorW.PrintLast Go.Proofs.YtmeblifbkhpdnaaDoorW.PrintMore
theorem info5 : (Tryd.prog.info? 5).map (fun i => (i.zero, i.size, i.bytes)) = some (some (.int .u8 0), 1, 1) := by kernel_rfl
structure S118 where
  f0 : ByteArray
  f1 : Int
def z118 : S118 := ⟨(⟨#[]⟩ : ByteArray), (0 : Int)⟩
def k118 : Kd S118 := Kd.iso (Kd.pair Kd.string (Kd.int .i64)) (fun x : S118 => (x.f0, x.f1))
theorem k118_open {w : World} {x : S118} {cs : List Value} (h : k118.K w x cs) : cs = [.string x.f0, .int .i64 x.f1] := by
  obtain ⟨_, _, rfl, rfl, rfl⟩ := h
  exact rfl
theorem k118_mk (w : World) (x : S118)  : k118.K w x [.string x.f0, .int .i64 x.f1] := ⟨[.string x.f0], [.int .i64 x.f1], rfl, rfl, rfl⟩
theorem k118_mkM (w : World) (base : Nat) (ok : Nat → Prop) (x : S118)  : k118.M w base ok x [.string x.f0, .int .i64 x.f1] := ⟨[.string x.f0], [.int .i64 x.f1], rfl, rfl, rfl⟩
def rd_T118 (xs : List S118) (i : Int) : S118 := xs.getD i.toNat z118
theorem at_T118 {w : World} {A : Option Addr} {n : Nat} {xs : List S118} (h : Kd.C k118 w A n xs) (i : Int) (h0 : 0 ≤ i) (h1 : i < n) : ∃ ad , A = some ad ∧ w.cell? (ad.add (i.toNat * 2)) = some (.string (rd_T118 xs i).f0) ∧ w.cell? ⟨(ad.add (i.toNat * 2)).block, (ad.add (i.toNat * 2)).off + 1, none⟩ = some (.int .i64 (rd_T118 xs i).f1) := by
  obtain ⟨ad, c, e, _, hK, hc0⟩ := Kd.C_get h z118 i h0 h1
  have hc : ∀ j u, c[j]? = some u → w.cell? (ad.add (i.toNat * 2 + j)) = some u := hc0
  obtain rfl := k118_open hK
  exact ⟨ad, e, hc 0 _ rfl, by rw [← add_field _ _ 1 (by omega)]; exact hc 1 _ rfl⟩
structure S36 where
  f0 : Int
  f1 : ByteArray
  f2 : Int
  f3 : Int
  f4 : (List S118)
def z36 : S36 := ⟨(0 : Int), (⟨#[]⟩ : ByteArray), (0 : Int), (0 : Int), ([] : List S118)⟩
def k36 : Kd S36 := Kd.iso (Kd.pair (Kd.int .i64) (Kd.pair Kd.string (Kd.pair (Kd.int .i64) (Kd.pair (Kd.int .i64) (Kd.slice 118 k118))))) (fun x : S36 => (x.f0, x.f1, x.f2, x.f3, x.f4))
theorem k36_open {w : World} {x : S36} {cs : List Value} (h : k36.K w x cs) : ∃ A4 c4, cs = [.int .i64 x.f0, .string x.f1, .int .i64 x.f2, .int .i64 x.f3, .slice A4 x.f4.length c4] ∧ x.f4.length ≤ c4 ∧ k118.C w A4 x.f4.length x.f4 := by
  obtain ⟨_, _, rfl, rfl, ⟨_, _, rfl, rfl, ⟨_, _, rfl, rfl, ⟨_, _, rfl, rfl, ⟨A4, c4, rfl, l4, g4⟩⟩⟩⟩⟩ := h
  exact ⟨A4, c4, rfl, l4, g4⟩
theorem k36_mk (w : World) (x : S36) {A4 : Option Addr} {c4 : Nat} (l4 : x.f4.length ≤ c4) (g4 : k118.C w A4 x.f4.length x.f4) : k36.K w x [.int .i64 x.f0, .string x.f1, .int .i64 x.f2, .int .i64 x.f3, .slice A4 x.f4.length c4] := ⟨[.int .i64 x.f0], [.string x.f1, .int .i64 x.f2, .int .i64 x.f3, .slice A4 x.f4.length c4], rfl, rfl, ⟨[.string x.f1], [.int .i64 x.f2, .int .i64 x.f3, .slice A4 x.f4.length c4], rfl, rfl, ⟨[.int .i64 x.f2], [.int .i64 x.f3, .slice A4 x.f4.length c4], rfl, rfl, ⟨[.int .i64 x.f3], [.slice A4 x.f4.length c4], rfl, rfl, ⟨A4, c4, rfl, l4, g4⟩⟩⟩⟩⟩
theorem k36_mkM (w : World) (base : Nat) (ok : Nat → Prop) (x : S36) {v4 : Value} (g4 : k118.R 118 w base ok v4 x.f4) : k36.M w base ok x [.int .i64 x.f0, .string x.f1, .int .i64 x.f2, .int .i64 x.f3, v4] := ⟨[.int .i64 x.f0], [.string x.f1, .int .i64 x.f2, .int .i64 x.f3, v4], rfl, rfl, ⟨[.string x.f1], [.int .i64 x.f2, .int .i64 x.f3, v4], rfl, rfl, ⟨[.int .i64 x.f2], [.int .i64 x.f3, v4], rfl, rfl, ⟨[.int .i64 x.f3], [v4], rfl, rfl, ⟨v4, rfl, g4⟩⟩⟩⟩⟩
structure S38 where
  f0 : Int
  f1 : Int
  f2 : S36
def z38 : S38 := ⟨(0 : Int), (0 : Int), z36⟩
def k38 : Kd S38 := Kd.iso (Kd.pair (Kd.int .i64) (Kd.pair (Kd.int .i64) k36)) (fun x : S38 => (x.f0, x.f1, x.f2))
theorem k38_open {w : World} {x : S38} {cs : List Value} (h : k38.K w x cs) : ∃ A6 c6, cs = [.int .i64 x.f0, .int .i64 x.f1, .int .i64 x.f2.f0, .string x.f2.f1, .int .i64 x.f2.f2, .int .i64 x.f2.f3, .slice A6 x.f2.f4.length c6] ∧ x.f2.f4.length ≤ c6 ∧ k118.C w A6 x.f2.f4.length x.f2.f4 := by
  obtain ⟨_, _, rfl, rfl, ⟨_, _, rfl, rfl, s2⟩⟩ := h
  obtain ⟨A6, c6, rfl, l6, g6⟩ := k36_open s2
  exact ⟨A6, c6, rfl, l6, g6⟩
theorem k38_mk (w : World) (x : S38) {A6 : Option Addr} {c6 : Nat} (l6 : x.f2.f4.length ≤ c6) (g6 : k118.C w A6 x.f2.f4.length x.f2.f4) : k38.K w x [.int .i64 x.f0, .int .i64 x.f1, .int .i64 x.f2.f0, .string x.f2.f1, .int .i64 x.f2.f2, .int .i64 x.f2.f3, .slice A6 x.f2.f4.length c6] := ⟨[.int .i64 x.f0], [.int .i64 x.f1, .int .i64 x.f2.f0, .string x.f2.f1, .int .i64 x.f2.f2, .int .i64 x.f2.f3, .slice A6 x.f2.f4.length c6], rfl, rfl, ⟨[.int .i64 x.f1], [.int .i64 x.f2.f0, .string x.f2.f1, .int .i64 x.f2.f2, .int .i64 x.f2.f3, .slice A6 x.f2.f4.length c6], rfl, rfl, (k36_mk w x.f2 l6 g6)⟩⟩
theorem k38_mkM (w : World) (base : Nat) (ok : Nat → Prop) (x : S38) {v6 : Value} (g6 : k118.R 118 w base ok v6 x.f2.f4) : k38.M w base ok x [.int .i64 x.f0, .int .i64 x.f1, .int .i64 x.f2.f0, .string x.f2.f1, .int .i64 x.f2.f2, .int .i64 x.f2.f3, v6] := ⟨[.int .i64 x.f0], [.int .i64 x.f1, .int .i64 x.f2.f0, .string x.f2.f1, .int .i64 x.f2.f2, .int .i64 x.f2.f3, v6], rfl, rfl, ⟨[.int .i64 x.f1], [.int .i64 x.f2.f0, .string x.f2.f1, .int .i64 x.f2.f2, .int .i64 x.f2.f3, v6], rfl, rfl, (k36_mkM w base ok x.f2 g6)⟩⟩
def rd_T38 (xs : List S38) (i : Int) : S38 := xs.getD i.toNat z38
theorem at_T38 {w : World} {A : Option Addr} {n : Nat} {xs : List S38} (h : Kd.C k38 w A n xs) (i : Int) (h0 : 0 ≤ i) (h1 : i < n) : ∃ ad A6 c6, A = some ad ∧ w.cell? (ad.add (i.toNat * 7)) = some (.int .i64 (rd_T38 xs i).f0) ∧ w.cell? ⟨(ad.add (i.toNat * 7)).block, (ad.add (i.toNat * 7)).off + 1, none⟩ = some (.int .i64 (rd_T38 xs i).f1) ∧ w.cell? ⟨(ad.add (i.toNat * 7)).block, (ad.add (i.toNat * 7)).off + 2, none⟩ = some (.int .i64 (rd_T38 xs i).f2.f0) ∧ w.cell? ⟨(ad.add (i.toNat * 7)).block, (ad.add (i.toNat * 7)).off + 3, none⟩ = some (.string (rd_T38 xs i).f2.f1) ∧ w.cell? ⟨(ad.add (i.toNat * 7)).block, (ad.add (i.toNat * 7)).off + 4, none⟩ = some (.int .i64 (rd_T38 xs i).f2.f2) ∧ w.cell? ⟨(ad.add (i.toNat * 7)).block, (ad.add (i.toNat * 7)).off + 5, none⟩ = some (.int .i64 (rd_T38 xs i).f2.f3) ∧ w.cell? ⟨(ad.add (i.toNat * 7)).block, (ad.add (i.toNat * 7)).off + 6, none⟩ = some (.slice A6 (rd_T38 xs i).f2.f4.length c6) ∧ (rd_T38 xs i).f2.f4.length ≤ c6 ∧ k118.C w A6 (rd_T38 xs i).f2.f4.length (rd_T38 xs i).f2.f4 := by
  obtain ⟨ad, c, e, _, hK, hc0⟩ := Kd.C_get h z38 i h0 h1
  have hc : ∀ j u, c[j]? = some u → w.cell? (ad.add (i.toNat * 7 + j)) = some u := hc0
  obtain ⟨A6, c6, rfl, l6, g6⟩ := k38_open hK
  exact ⟨ad, A6, c6, e, hc 0 _ rfl, by rw [← add_field _ _ 1 (by omega)]; exact hc 1 _ rfl, by rw [← add_field _ _ 2 (by omega)]; exact hc 2 _ rfl, by rw [← add_field _ _ 3 (by omega)]; exact hc 3 _ rfl, by rw [← add_field _ _ 4 (by omega)]; exact hc 4 _ rfl, by rw [← add_field _ _ 5 (by omega)]; exact hc 5 _ rfl, by rw [← add_field _ _ 6 (by omega)]; exact hc 6 _ rfl, l6, g6⟩
structure S41 where
  f0 : Int
  f1 : Int
  f2 : Int
  f3 : Int
  f4 : S38
  f5 : (List S38)
def z41 : S41 := ⟨(0 : Int), (0 : Int), (0 : Int), (0 : Int), z38, ([] : List S38)⟩
def k41 : Kd S41 := Kd.iso (Kd.pair (Kd.int .i64) (Kd.pair (Kd.int .i64) (Kd.pair (Kd.int .i64) (Kd.pair (Kd.int .i64) (Kd.pair k38 (Kd.slice 38 k38)))))) (fun x : S41 => (x.f0, x.f1, x.f2, x.f3, x.f4, x.f5))
theorem k41_open {w : World} {x : S41} {cs : List Value} (h : k41.K w x cs) : ∃ A10 c10 A11 c11, cs = [.int .i64 x.f0, .int .i64 x.f1, .int .i64 x.f2, .int .i64 x.f3, .int .i64 x.f4.f0, .int .i64 x.f4.f1, .int .i64 x.f4.f2.f0, .string x.f4.f2.f1, .int .i64 x.f4.f2.f2, .int .i64 x.f4.f2.f3, .slice A10 x.f4.f2.f4.length c10, .slice A11 x.f5.length c11] ∧ x.f4.f2.f4.length ≤ c10 ∧ k118.C w A10 x.f4.f2.f4.length x.f4.f2.f4 ∧ x.f5.length ≤ c11 ∧ k38.C w A11 x.f5.length x.f5 := by
  obtain ⟨_, _, rfl, rfl, ⟨_, _, rfl, rfl, ⟨_, _, rfl, rfl, ⟨_, _, rfl, rfl, ⟨_, _, rfl, s4, ⟨A11, c11, rfl, l11, g11⟩⟩⟩⟩⟩⟩ := h
  obtain ⟨A10, c10, rfl, l10, g10⟩ := k38_open s4
  exact ⟨A10, c10, A11, c11, rfl, l10, g10, l11, g11⟩
theorem k41_mkM (w : World) (base : Nat) (ok : Nat → Prop) (x : S41) {v10 : Value} (g10 : k118.R 118 w base ok v10 x.f4.f2.f4) {v11 : Value} (g11 : k38.R 38 w base ok v11 x.f5) : k41.M w base ok x [.int .i64 x.f0, .int .i64 x.f1, .int .i64 x.f2, .int .i64 x.f3, .int .i64 x.f4.f0, .int .i64 x.f4.f1, .int .i64 x.f4.f2.f0, .string x.f4.f2.f1, .int .i64 x.f4.f2.f2, .int .i64 x.f4.f2.f3, v10, v11] := ⟨[.int .i64 x.f0], [.int .i64 x.f1, .int .i64 x.f2, .int .i64 x.f3, .int .i64 x.f4.f0, .int .i64 x.f4.f1, .int .i64 x.f4.f2.f0, .string x.f4.f2.f1, .int .i64 x.f4.f2.f2, .int .i64 x.f4.f2.f3, v10, v11], rfl, rfl, ⟨[.int .i64 x.f1], [.int .i64 x.f2, .int .i64 x.f3, .int .i64 x.f4.f0, .int .i64 x.f4.f1, .int .i64 x.f4.f2.f0, .string x.f4.f2.f1, .int .i64 x.f4.f2.f2, .int .i64 x.f4.f2.f3, v10, v11], rfl, rfl, ⟨[.int .i64 x.f2], [.int .i64 x.f3, .int .i64 x.f4.f0, .int .i64 x.f4.f1, .int .i64 x.f4.f2.f0, .string x.f4.f2.f1, .int .i64 x.f4.f2.f2, .int .i64 x.f4.f2.f3, v10, v11], rfl, rfl, ⟨[.int .i64 x.f3], [.int .i64 x.f4.f0, .int .i64 x.f4.f1, .int .i64 x.f4.f2.f0, .string x.f4.f2.f1, .int .i64 x.f4.f2.f2, .int .i64 x.f4.f2.f3, v10, v11], rfl, rfl, ⟨[.int .i64 x.f4.f0, .int .i64 x.f4.f1, .int .i64 x.f4.f2.f0, .string x.f4.f2.f1, .int .i64 x.f4.f2.f2, .int .i64 x.f4.f2.f3, v10], [v11], rfl, (k38_mkM w base ok x.f4 g10), ⟨v11, rfl, g11⟩⟩⟩⟩⟩⟩
def rd_T41 (xs : List S41) (i : Int) : S41 := xs.getD i.toNat z41
theorem at_T41 {w : World} {A : Option Addr} {n : Nat} {xs : List S41} (h : Kd.C k41 w A n xs) (i : Int) (h0 : 0 ≤ i) (h1 : i < n) : ∃ ad A10 c10 A11 c11, A = some ad ∧ w.cell? (ad.add (i.toNat * 12)) = some (.int .i64 (rd_T41 xs i).f0) ∧ w.cell? ⟨(ad.add (i.toNat * 12)).block, (ad.add (i.toNat * 12)).off + 1, none⟩ = some (.int .i64 (rd_T41 xs i).f1) ∧ w.cell? ⟨(ad.add (i.toNat * 12)).block, (ad.add (i.toNat * 12)).off + 2, none⟩ = some (.int .i64 (rd_T41 xs i).f2) ∧ w.cell? ⟨(ad.add (i.toNat * 12)).block, (ad.add (i.toNat * 12)).off + 3, none⟩ = some (.int .i64 (rd_T41 xs i).f3) ∧ w.cell? ⟨(ad.add (i.toNat * 12)).block, (ad.add (i.toNat * 12)).off + 4, none⟩ = some (.int .i64 (rd_T41 xs i).f4.f0) ∧ w.cell? ⟨(ad.add (i.toNat * 12)).block, (ad.add (i.toNat * 12)).off + 5, none⟩ = some (.int .i64 (rd_T41 xs i).f4.f1) ∧ w.cell? ⟨(ad.add (i.toNat * 12)).block, (ad.add (i.toNat * 12)).off + 6, none⟩ = some (.int .i64 (rd_T41 xs i).f4.f2.f0) ∧ w.cell? ⟨(ad.add (i.toNat * 12)).block, (ad.add (i.toNat * 12)).off + 7, none⟩ = some (.string (rd_T41 xs i).f4.f2.f1) ∧ w.cell? ⟨(ad.add (i.toNat * 12)).block, (ad.add (i.toNat * 12)).off + 8, none⟩ = some (.int .i64 (rd_T41 xs i).f4.f2.f2) ∧ w.cell? ⟨(ad.add (i.toNat * 12)).block, (ad.add (i.toNat * 12)).off + 9, none⟩ = some (.int .i64 (rd_T41 xs i).f4.f2.f3) ∧ w.cell? ⟨(ad.add (i.toNat * 12)).block, (ad.add (i.toNat * 12)).off + 10, none⟩ = some (.slice A10 (rd_T41 xs i).f4.f2.f4.length c10) ∧ w.cell? ⟨(ad.add (i.toNat * 12)).block, (ad.add (i.toNat * 12)).off + 11, none⟩ = some (.slice A11 (rd_T41 xs i).f5.length c11) ∧ (rd_T41 xs i).f4.f2.f4.length ≤ c10 ∧ k118.C w A10 (rd_T41 xs i).f4.f2.f4.length (rd_T41 xs i).f4.f2.f4 ∧ (rd_T41 xs i).f5.length ≤ c11 ∧ k38.C w A11 (rd_T41 xs i).f5.length (rd_T41 xs i).f5 := by
  obtain ⟨ad, c, e, _, hK, hc0⟩ := Kd.C_get h z41 i h0 h1
  have hc : ∀ j u, c[j]? = some u → w.cell? (ad.add (i.toNat * 12 + j)) = some u := hc0
  obtain ⟨A10, c10, A11, c11, rfl, l10, g10, l11, g11⟩ := k41_open hK
  exact ⟨ad, A10, c10, A11, c11, e, hc 0 _ rfl, by rw [← add_field _ _ 1 (by omega)]; exact hc 1 _ rfl, by rw [← add_field _ _ 2 (by omega)]; exact hc 2 _ rfl, by rw [← add_field _ _ 3 (by omega)]; exact hc 3 _ rfl, by rw [← add_field _ _ 4 (by omega)]; exact hc 4 _ rfl, by rw [← add_field _ _ 5 (by omega)]; exact hc 5 _ rfl, by rw [← add_field _ _ 6 (by omega)]; exact hc 6 _ rfl, by rw [← add_field _ _ 7 (by omega)]; exact hc 7 _ rfl, by rw [← add_field _ _ 8 (by omega)]; exact hc 8 _ rfl, by rw [← add_field _ _ 9 (by omega)]; exact hc 9 _ rfl, by rw [← add_field _ _ 10 (by omega)]; exact hc 10 _ rfl, by rw [← add_field _ _ 11 (by omega)]; exact hc 11 _ rfl, l10, g10, l11, g11⟩
theorem infou8 : (Tryd.prog.info? 5).map (fun i => (i.zero, i.size, i.bytes)) = some (some (.int .u8 0), 1, 1) := by kernel_rfl
theorem empty_lit {α : Type} (d : Kd α) (e : Nat) (w : World) : d.R e (w.alloc (.cells #[] e)) w.heap.size (fun _ => True) (.slice (some ⟨w.heap.size, 0, none⟩) 0 0) [] := by
  refine ⟨fun _ _ => trivial, [], ?_, ?_⟩
  · have h2 := World.ownsRow_lit (base := w.heap.size) (e := e) (size := d.sz) w #[] 0 (Nat.le_refl _) (by simp [maxLen]) (by simp)
    simpa using h2
  · exact ⟨by simp, fun j p hj => by simp at hj⟩
theorem bnext {w w1 w2 : World} (hb : Below w.heap.size w w1) (o : Obj) (h : Below (w1.alloc o).heap.size (w1.alloc o) w2) : Below w.heap.size w w2 :=
  (below_alloc hb o).trans (h.mono (below_alloc hb o).size)
theorem R_C {α : Type} {d : Kd α} {e base : Nat} {ok : Nat → Prop} {w : World} {v : Value} {l : List α} (h : d.R e w base ok v l) : ∃ A c, v = .slice A l.length c ∧ l.length ≤ c ∧ d.C w A l.length l := Kd.R_reads h
theorem lit_C (k : IntKind) (W : World) (e : Nat) (fr : Nat × Nat) (xs : List Int) (hm : xs.length ≤ 9223372036854775807) : Kd.C (Kd.int k) (W.alloc (.cells (nums k xs).toArray e fr)) (some ⟨W.heap.size, 0, none⟩) xs.length xs := by
  refine Kd.C_of_reads (d := 0) (enc := fun x => Value.int k x) (h1 := fun _ => rfl) ⟨rfl, hm, fun _ => ⟨_, rfl, fun j hj => ?_⟩⟩
  rw [add_plain, World.cell?_alloc_mark]
  simp [nums, List.getElem?_eq_getElem hj, List.getD_eq_getElem?_getD]
theorem wrap64_in {n : Int} (h0 : -9223372036854775808 ≤ n) (h1 : n < 9223372036854775808) : wrap64 n = n := by unfold wrap64; omega
theorem wrap_next (n k : Nat) (h : k < n) (hm : n ≤ maxLen) : wrap64 ((k : Int) + 1) = ((k + 1 : Nat) : Int) := by
  unfold maxLen at hm
  rw [wrap64_in (by omega) (by omega)]
  omega
theorem meas_step (n k : Nat) (h : k < n) (h2 : wrap64 ((k : Int) + 1) = ((k + 1 : Nat) : Int)) : n - (intOf (.int .i64 (wrap64 ((k : Int) + 1)))).toNat < n - (intOf (.int .i64 (k : Int))).toNat := by
  rw [h2]
  simp only [intOf]
  omega
theorem rd_at (l : List Int) (i : Nat) (h : i < l.length) : rd l (i : Int) = l[i] := by simp [rd, List.getD_eq_getElem?_getD, List.getElem?_eq_getElem h]
theorem bytes_take (kl : IntKind) (A : Option Addr) (c : Nat) (xs : List Int) (m : Nat) (hm : m ≤ xs.length) (hc : xs.length ≤ c) :
    (∀ W : World, (Instr.slice 22 (.slice A xs.length c) none (some (.int kl (m : Int))) none).run Tryd.prog W = .ok (.slice A m c) W) ∧ (∀ w : World, Kd.C (Kd.int .u8) w A xs.length xs → Kd.C (Kd.int .u8) w A (xs.take m).length (xs.take m)) ∧ (xs.take m).length = m := by
  obtain ⟨i0, hi, _, hsz, _⟩ := info_parts infou8
  obtain ⟨hcut, hA, hC⟩ := print_take_of (P := Tryd.prog) (Value.int .u8) 0 22 5 kl Tryd.underlying22 hi hsz A c xs (m : Int) (by omega) (by omega) hc
  have hl : (xs.take m).length = m := by rw [List.length_take]; omega
  rw [Int.toNat_natCast] at hcut hA
  rw [hl] at hcut
  exact ⟨hcut, fun w h => Kd.C_of_reads (h1 := fun _ => rfl) (hA w (Kd.reads_of_C h)), hl⟩
theorem bytes_drop (kl : IntKind) (A : Option Addr) (c : Nat) (xs : List Int) (m : Nat) (hm : m ≤ xs.length) (hc : xs.length ≤ c) :
    ∃ A' : Option Addr, (∀ W : World, (Instr.slice 22 (.slice A xs.length c) (some (.int kl (m : Int))) none none).run Tryd.prog W = .ok (.slice A' (xs.length - m) (c - m)) W) ∧ (∀ w : World, Kd.C (Kd.int .u8) w A xs.length xs → Kd.C (Kd.int .u8) w A' (xs.drop m).length (xs.drop m)) ∧ (xs.drop m).length ≤ c - m ∧ ∀ ad', A' = some ad' → ∃ ad, A = some ad ∧ ad'.block = ad.block := by
  obtain ⟨i0, hi, _, hsz, _⟩ := info_parts infou8
  refine ⟨if c = m then A else A.map (·.add m), fun W => ?_, fun w h => ?_, by rw [List.length_drop]; omega, fun ad' h => ?_⟩
  · have hel : (Tryd.prog).elem 22 = 5 := by simp [Program.elem, Tryd.underlying22]
    have hu : (Tryd.prog).underlying 22 = some (.slice ((Tryd.prog).elem 22)) := by rw [hel]; exact Tryd.underlying22
    rw [run_slice_l W 22 A xs.length c hu kl (m : Int) (Int.natCast_nonneg _) (by omega), hel]
    simp [sizeOf, typeInfo, hi, hsz, sliced, Result.andThen]
  · have h2 := Kd.C_drop h hm hc
    have hs : m * (Kd.int .u8).sz = m := Nat.mul_one m
    rwa [hs] at h2
  · split at h
    · exact ⟨ad', h, rfl⟩
    · cases A with
      | none => cases h
      | some ad =>
        injection h with h
        refine ⟨ad, rfl, ?_⟩
        rw [← h]
        unfold Addr.add
        split <;> rfl
theorem bytes_mid (kl kh : IntKind) (A : Option Addr) (c : Nat) (xs : List Int) (a b : Nat) (h1 : a ≤ b) (hm : b ≤ xs.length) (hc : xs.length ≤ c) :
    ∃ A' : Option Addr, (∀ W : World, (Instr.slice 22 (.slice A xs.length c) (some (.int kl (a : Int))) (some (.int kh (b : Int))) none).run Tryd.prog W = .ok (.slice A' (b - a) (c - a)) W) ∧ (∀ w : World, Kd.C (Kd.int .u8) w A xs.length xs → Kd.C (Kd.int .u8) w A' ((xs.take b).drop a).length ((xs.take b).drop a)) ∧ ((xs.take b).drop a).length ≤ c - a ∧ ((xs.take b).drop a).length = b - a := by
  obtain ⟨i0, hi, _, hsz, _⟩ := info_parts infou8
  obtain ⟨A', hcut, hA, hC⟩ := print_mid_of (P := Tryd.prog) (Value.int .u8) 0 22 5 kl kh Tryd.underlying22 hi hsz A c xs (a : Int) (b : Int) (by omega) (by omega) (by omega) hc
  have hl : ((xs.take b).drop a).length = b - a := by rw [List.length_drop, List.length_take]; omega
  rw [Int.toNat_natCast, Int.toNat_natCast] at hcut hA hC
  rw [hl] at hcut
  exact ⟨A', hcut, fun w h => Kd.C_of_reads (h1 := fun _ => rfl) (hA w (Kd.reads_of_C h)), hC, hl⟩
end Go.Proofs.YtmeblifbkhpdnaaDoor.K
namespace Go.Proofs.YtmeblifbkhpdnaaDoor.K
set_option linter.unusedVariables false
set_option linter.unusedSimpArgs false
open Go.RowKit Go.Proofs.YtmeblifbkhpdnaaDoorW.PrintWords Go.Proofs.YtmeblifbkhpdnaaDoorW.PrintLast Go.Proofs.YtmeblifbkhpdnaaDoorW.PrintMore
def clone.f (l0 : List Int) : Option (List Int) := if l0.length < 140737488355328 then some l0 else none
set_option maxHeartbeats 8000000 in
theorem clone.calls (A0 : Option Addr) (c0 : Nat) (l0 : List Int) (r : List Int) (w : World) (hr0 : Kd.C (Kd.int .u8) w A0 l0.length l0) (hc0 : l0.length ≤ c0) (h : clone.f l0 = some r) :
    Calls Tryd.prog 53 #[.slice A0 l0.length c0] w fun e w' => ∃ v0_ : Value, e = .returned (v0_) ∧ Kd.R (Kd.int .u8) 5 w' w.heap.size (fun _ => True) v0_ r ∧ Below w.heap.size w w' := by
  unfold clone.f at h
  have infou8 : (Tryd.prog.info? 5).map (fun i => (i.zero, i.size, i.bytes)) = some (some (.int .u8 0), 1, 1) := by kernel_rfl
  split at h
  case isFalse => cases h
  case isTrue hlim =>
  obtain rfl := Option.some.inj h
  clear h
  have HR0 := Aside0.mk hr0
  have HB := Aside0.mk (Below.refl w.heap.size w)
  rcases A0 with _ | ad
  · obtain rfl : l0 = [] := by
      rcases Nat.eq_zero_or_pos l0.length with h0 | h0
      · exact List.eq_nil_of_length_eq_zero h0
      · obtain ⟨ad, h, _⟩ := hr0.2.2 h0
        cases h
    clear hr0
    have hn := fun (W : World) => Go.run_eql_slice_nil (P := Tryd.prog) W 22 5 none 0 c0 Tryd.underlying22
    show Calls Tryd.prog 53 #[.slice none 0 c0] w _
    go_enter Tryd.func53, Tryd.ntmps53
    go_wp2_with fail
    go_ret
    exact ⟨_, rfl, Kd.R_nil _ _ _ _ _, Below.refl _ _⟩
  · have LM := Aside0.mk hlim
    have EL := Aside0.mk (empty_lit (Kd.int .u8) 5 w)
    clear hr0 hlim hc0
    have hn := fun (W : World) => Go.run_eql_slice_nil (P := Tryd.prog) W 22 5 (some ad) l0.length c0 Tryd.underlying22
    go_enter Tryd.func53, Tryd.ntmps53
    go_wp2_with (first | ((with_reducible refine gate_builtin (b := .append) (xs := #[.tmp 5, .tmp 6]) rfl ?_); at_builtin; refine Kd.R_append_rows (Kd.int .u8) (w0 := w) w.heap.size rfl (.tmp 5) (.tmp 6) 22 5 (.int .u8 0) 1 rfl Tryd.underlying22 infou8 rfl (by decide) (by omega) (.slice (some ⟨w.heap.size, 0, none⟩) 0 0) ([] : List Int) l0 _ _ _ (fun _ => True) (fun _ => False) rfl rfl ?aO ?aR (fun _ _ h => h) (fun _ h => h.elim) ?aF ?aB ?aS ?aL ?_; (case aR => exact Kd.C_alloc HR0.out _); (case aB => exact below_alloc HB.out _); (case aF => exact (fun _ _ => trivial)); (case aO => exact EL.out); (case aS => exact (by simp)); (case aL => have := LM.out; simp; omega); intro v102 w3 ho hb hg hat; have n0_ := Aside0.mk (hb); have n1_ := Aside0.mk (ho); clear HB; have HB := n0_; have HO103 := n1_; clear n0_ n1_; clear ho hb hg hat))
    go_ret
    exact ⟨_, rfl, by simpa using HO103.out, HB.out⟩
theorem bits_xor32 (a b : BitVec 32) : Go.bits .xor .u32 (a.toNat : Int) (b.toNat : Int) = ((a ^^^ b).toNat : Int) := by
  unfold Go.bits
  have h := (a ^^^ b).isLt
  simp only [IntKind.bits, BitVec.ofInt_natCast, BitVec.ofNat_toNat, BitVec.setWidth_eq]
  rw [IntKind.wrap_u32]
  exact Int.emod_eq_of_lt (Int.natCast_nonneg _) (Int.ofNat_lt.2 h)
theorem bits_and32 (a b : BitVec 32) : Go.bits .and .u32 (a.toNat : Int) (b.toNat : Int) = ((a &&& b).toNat : Int) := by
  unfold Go.bits
  have h := (a &&& b).isLt
  simp only [IntKind.bits, BitVec.ofInt_natCast, BitVec.ofNat_toNat, BitVec.setWidth_eq]
  rw [IntKind.wrap_u32]
  exact Int.emod_eq_of_lt (Int.natCast_nonneg _) (Int.ofNat_lt.2 h)
theorem step32 (v : BitVec 32) : Go.bits .xor .u32 ((v.toNat : Int) / 2) (Go.bits .and .u32 3988292384 ((-(Go.bits .and .u32 (v.toNat : Int) 1)) % 4294967296)) = ((CrcMath.st1 v).toNat : Int) := by
  have e1 : Go.bits .and .u32 (v.toNat : Int) 1 = ((v.toNat % 2 : Nat) : Int) := by
    have := bits_and32 v 1#32
    rw [show ((1#32).toNat : Int) = 1 from rfl] at this
    rw [this, BitVec.toNat_and]
    show ((v.toNat &&& 1 : Nat) : Int) = _
    rw [Nat.and_one_is_mod]
  have e2 : Go.bits .and .u32 3988292384 ((-(Go.bits .and .u32 (v.toNat : Int) 1)) % 4294967296) = (((if v.getLsbD 0 then CrcMath.poly else 0#32).toNat : Nat) : Int) := by
    rw [e1, BitVec.getLsbD, Nat.testBit_zero]
    rcases Nat.mod_two_eq_zero_or_one v.toNat with h | h <;> rw [h] <;> decide
  have e3 : ((v.toNat : Int) / (2 : Int)) = ((v >>> 1).toNat : Int) := by
    have : (v >>> 1).toNat = v.toNat / 2 := by rw [BitVec.toNat_ushiftRight, Nat.shiftRight_eq_div_pow]
    rw [this]
    omega
  rw [e2, e3, bits_xor32]
  rfl
def tbv (i : Nat) : Value := .int .u32 ((CrcMath.stN 4 (BitVec.ofNat 32 i)).toNat : Int)
def IsTab (w : World) (g k : Nat) : Prop := ∃ cs : Array Value, w.heap[g]? = some (.cells cs 99 (0, 0)) ∧ cs.size = 16 ∧ (∀ j, j < k → cs[j]? = some (tbv j)) ∧ ∀ j, j < 16 → ∃ v, cs[j]? = some v
def tbl : Array Value := #[tbv 0, tbv 1, tbv 2, tbv 3, tbv 4, tbv 5, tbv 6, tbv 7, tbv 8, tbv 9, tbv 10, tbv 11, tbv 12, tbv 13, tbv 14, tbv 15]
theorem tbl_of {cs : Array Value} (h : cs.size = 16) (hall : ∀ j, j < 16 → cs[j]? = some (tbv j)) : cs = tbl := by
  apply Array.ext
  · rw [h]; rfl
  · intro i h1 h2
    have h3 := hall i (by omega)
    rw [Array.getElem?_eq_getElem h1] at h3
    have h4 := Option.some.inj h3
    rw [h4]
    have : i = 0 ∨ i = 1 ∨ i = 2 ∨ i = 3 ∨ i = 4 ∨ i = 5 ∨ i = 6 ∨ i = 7 ∨ i = 8 ∨ i = 9 ∨ i = 10 ∨ i = 11 ∨ i = 12 ∨ i = 13 ∨ i = 14 ∨ i = 15 := by omega
    rcases this with rfl | rfl | rfl | rfl | rfl | rfl | rfl | rfl | rfl | rfl | rfl | rfl | rfl | rfl | rfl | rfl <;> rfl
theorem tbl_all {j : Nat} (h : j < 16) : tbl[j]? = some (tbv j) := by
  have : j = 0 ∨ j = 1 ∨ j = 2 ∨ j = 3 ∨ j = 4 ∨ j = 5 ∨ j = 6 ∨ j = 7 ∨ j = 8 ∨ j = 9 ∨ j = 10 ∨ j = 11 ∨ j = 12 ∨ j = 13 ∨ j = 14 ∨ j = 15 := by omega
  rcases this with rfl | rfl | rfl | rfl | rfl | rfl | rfl | rfl | rfl | rfl | rfl | rfl | rfl | rfl | rfl | rfl <;> rfl
theorem isTab_set {w : World} {g k : Nat} (hk : k < 16) (h : IsTab w g k) : IsTab (w.setCell ⟨g, k, none⟩ (tbv k)) g (k + 1) := by
  obtain ⟨cs, h1, h2, h3, h4⟩ := h
  refine ⟨_, blk_set h1 k (tbv k), by simpa using h2, fun j hj => ?_, fun j hj => ?_⟩
  · rw [Array.getElem?_setIfInBounds]
    by_cases e : k = j
    · subst e; rw [if_pos rfl, if_pos (by omega)]
    · rw [if_neg e]; exact h3 j (by omega)
  · rw [Array.getElem?_setIfInBounds]
    by_cases e : k = j
    · subst e; rw [if_pos rfl, if_pos (by omega)]; exact ⟨_, rfl⟩
    · rw [if_neg e]; exact h4 j hj
theorem isTab_zero (w : World) : IsTab (w.alloc (.cells #[.int .u32 0, .int .u32 0, .int .u32 0, .int .u32 0, .int .u32 0, .int .u32 0, .int .u32 0, .int .u32 0, .int .u32 0, .int .u32 0, .int .u32 0, .int .u32 0, .int .u32 0, .int .u32 0, .int .u32 0, .int .u32 0] 99)) w.heap.size 0 := by
  refine ⟨_, blk_new w _, rfl, fun j hj => by omega, fun j hj => ?_⟩
  rw [Array.getElem?_eq_getElem (by simpa using hj)]
  exact ⟨_, rfl⟩
set_option maxHeartbeats 8000000 in
theorem sum_build.calls (w : World) : Calls Tryd.prog 64 #[] w fun e w' => e = .returned (.agg tbl) ∧ Below w.heap.size w w' := by
  have HI := Aside0.mk (isTab_zero w)
  go_enter Tryd.func64, Tryd.ntmps64
  go_wp2_with fail
  go_loopw [3] (fun v wr => ∃ k : Nat, k ≤ 16 ∧ v = .int .i64 k ∧ Aside0 (IsTab wr w.heap.size k) ∧ Aside0 (Below w.heap.size w wr)) (fun v _ => 16 - (intOf v).toNat)
  case atStart => exact ⟨0, by omega, rfl, HI, ⟨below_alloc (Below.refl _ _) _⟩⟩
  case round =>
    obtain ⟨k, hk, rfl, HT, HB⟩ := hrel
    clear HI
    by_cases hlt : k < 16
    · have hb : decide ((k : Int) < 16) = true := by simp; omega
      go_wp2_with fail
      go_loop [2, 8] (fun n v => ∃ j : Nat, j ≤ 4 ∧ v = .int .i64 j ∧ n = .int .u32 ((CrcMath.stN j (BitVec.ofNat 32 k)).toNat : Int)) (fun _ v => 4 - (intOf v).toNat)
      case atStart =>
        refine ⟨0, by omega, rfl, ?_⟩
        have e : ((BitVec.ofNat 32 k).toNat : Int) = (k : Int) := by rw [BitVec.toNat_ofNat]; omega
        simp only [CrcMath.stN, e]
      case round =>
        obtain ⟨j, hj, rfl, rfl⟩ := hrel
        have S := Aside0.mk (step32 (CrcMath.stN j (BitVec.ofNat 32 k)))
        by_cases hlt2 : j < 4
        · have hb2 : decide ((j : Int) < 4) = true := by simp; omega
          go_wp2_with fail
          go_round
          case rel => exact ⟨j + 1, by omega, by go_num, by rw [S.out, CrcMath.stN_succ']⟩
          case measure => simp [intOf]; omega
        · have hb2 : decide ((j : Int) < 4) = false := by simp; omega
          obtain rfl : j = 4 := by omega
          clear S
          obtain ⟨cs, hcs, hsz, hlo, hall⟩ := HT.out
          obtain ⟨v0, hv0⟩ := hall k hlt
          have hc0 : wr.cell? ⟨w.heap.size, k, none⟩ = some v0 := (blk_cell hcs k).trans hv0
          have hfz := blk_frozen hcs k
          have HC := Aside0.mk hcs
          clear hcs hv0 hall hlo
          go_wp2_with fail
          go_roundw
          case rel => exact ⟨k + 1, by omega, by go_num, ⟨isTab_set hlt HT.out⟩, ⟨below_set HB.out (Nat.le_refl _)⟩⟩
          case measure => simp [intOf]; omega
    · have hb : decide ((k : Int) < 16) = false := by simp; omega
      obtain rfl : k = 16 := by omega
      obtain ⟨cs, hcs, hsz, hlo, hall⟩ := HT.out
      obtain rfl := tbl_of hsz hlo
      have HC := Aside0.mk hcs
      clear hcs hsz hlo hall hlt hk HT
      go_wp2_with (first | (refine wpList_load_row rfl 99 (.tmp 0) rfl w.heap.size rfl 99 tbl (0, 0) _ HC.out Tryd.underlying99 rfl (by kernel_rfl) ?_) | (refine wpList_store_row rfl 99 (.tmp 0) (.tmp 22) rfl w.heap.size tbl rfl rfl 99 tbl HC.out (by kernel_rfl) rfl (by kernel_rfl) ?_))
      exact bodyPost_ret (v := .agg tbl) (results_cell_row rfl _ _ w.heap.size 99 tbl (0, 0) _ rfl (setRow_heap _ _ _ _ _ _ HC.out) Tryd.underlying99 rfl (by kernel_rfl)) rfl ⟨rfl, below_setRow HB.out (Nat.le_refl _) _⟩
theorem bits_byte32 (s : BitVec 32) (c : Int) : Go.bits .xor .u32 (s.toNat : Int) (c % 4294967296) = ((s ^^^ BitVec.ofInt 32 c).toNat : Int) := by
  have e : (c % 4294967296) = ((BitVec.ofInt 32 c).toNat : Int) := by
    rw [BitVec.toNat_ofInt]
    omega
  rw [e, bits_xor32]
theorem bits_and15 (v : BitVec 32) : Go.bits .and .u32 (v.toNat : Int) 15 = ((v.toNat % 16 : Nat) : Int) := by
  have := bits_and32 v 15#32
  rw [show ((15#32).toNat : Int) = 15 from rfl] at this
  rw [this, BitVec.toNat_and]
  show ((v.toNat &&& 15 : Nat) : Int) = _
  rw [show (15 : Nat) = 2 ^ 4 - 1 from rfl, Nat.and_two_pow_sub_one_eq_mod]
theorem nibble (v : BitVec 32) : (v >>> 4) ^^^ CrcMath.stN 4 (BitVec.ofNat 32 (v.toNat % 16)) = CrcMath.stN 4 v := by
  have e : v = ((v >>> 4) <<< 4) ^^^ BitVec.ofNat 32 (v.toNat % 16) := by
    apply BitVec.eq_of_getLsbD_eq
    intro i hi
    rw [BitVec.getLsbD_xor, BitVec.getLsbD_shiftLeft, BitVec.getLsbD_ushiftRight, BitVec.getLsbD_ofNat, show (16 : Nat) = 2 ^ 4 from rfl, Nat.testBit_mod_two_pow]
    by_cases h : i < 4
    · simp [h, hi, BitVec.getLsbD]
    · have : 4 + (i - 4) = i := by omega
      simp [h, hi, this]
  have h2 : CrcMath.stN 4 ((v >>> 4) <<< 4) = v >>> 4 := CrcMath.stN_shl 4 _ (fun i hi => by rw [BitVec.getLsbD_ushiftRight]; exact BitVec.getLsbD_of_ge _ _ (by omega))
  conv => rhs; rw [e, CrcMath.stN_xor, h2]
theorem step16 (v : BitVec 32) : Go.bits .xor .u32 ((v.toNat : Int) / 16) ((CrcMath.stN 4 (BitVec.ofNat 32 (v.toNat % 16))).toNat : Int) = ((CrcMath.stN 4 v).toNat : Int) := by
  have e3 : ((v.toNat : Int) / (16 : Int)) = ((v >>> 4).toNat : Int) := by
    have : (v >>> 4).toNat = v.toNat / 16 := by rw [BitVec.toNat_ushiftRight, Nat.shiftRight_eq_div_pow]
    rw [this]
    omega
  rw [e3, bits_xor32, nibble]
def crcI (l : List Int) : Int := ((CrcMath.crc l).toNat : Int)
theorem crcI_max (l : List Int) : Go.bits .xor .u32 IntKind.u32.max ((CrcMath.crcS CrcMath.ones l).toNat : Int) = crcI l := by
  have e : IntKind.u32.max = ((CrcMath.ones).toNat : Int) := by decide
  rw [e, bits_xor32, BitVec.xor_comm]
  rfl
def sum_Crc.f (l0 : List Int) : Option Int := some (crcI l0)
theorem crcS_snoc (s : BitVec 32) (l : List Int) (k : Nat) (h : k < l.length) : CrcMath.crcS s (l.take (k + 1)) = CrcMath.stN 4 (CrcMath.stN 4 (CrcMath.crcS s (l.take k) ^^^ BitVec.ofInt 32 (rd l k))) := by
  rw [List.take_succ_eq_append_getElem h, CrcMath.crcS_append]
  have : rd l k = l[k] := by simp [rd, List.getD_eq_getElem?_getD, List.getElem?_eq_getElem h]
  rw [this, ← CrcMath.stN_add 4 4]
  rfl
set_option maxHeartbeats 8000000 in
set_option maxRecDepth 100000 in
theorem sum_Crc.calls (A0 : Option Addr) (c0 : Nat) (l0 : List Int) (r : Int) (w : World) (hr0 : Kd.C (Kd.int .u8) w A0 l0.length l0) (hc0 : l0.length ≤ c0) (h : sum_Crc.f l0 = some r) :
    Calls Tryd.prog 27 #[.slice A0 l0.length c0] w fun e w' => e = .returned (.int .u32 r) ∧ Below w.heap.size w w' := by
  obtain rfl := Option.some.inj h
  clear h hc0
  have HR0 := Aside0.mk hr0
  have hlen := hr0.2.1
  clear hr0
  go_enter Tryd.func27, Tryd.ntmps27
  go_wp2_with fail
  refine (sum_build.calls _).mono ?_
  rintro e w1 ⟨rfl, hb⟩
  have HB := Aside0.mk hb
  clear hb
  go_wp2_with (refine wpList_store_row rfl 99 (.tmp 3) (.tmp 7) rfl w1.heap.size tbl rfl rfl 99 _ (blk_new w1 _) (by kernel_rfl) rfl (by kernel_rfl) ?_)
  have HC := Aside0.mk (setRow_heap _ w1.heap.size _ tbl 99 _ (blk_new w1 (.cells #[.int .u32 0, .int .u32 0, .int .u32 0, .int .u32 0, .int .u32 0, .int .u32 0, .int .u32 0, .int .u32 0, .int .u32 0, .int .u32 0, .int .u32 0, .int .u32 0, .int .u32 0, .int .u32 0, .int .u32 0, .int .u32 0] 99)))
  have HB2 := Aside0.mk (below_setRow (below_alloc HB.out (.cells #[.int .u32 0, .int .u32 0, .int .u32 0, .int .u32 0, .int .u32 0, .int .u32 0, .int .u32 0, .int .u32 0, .int .u32 0, .int .u32 0, .int .u32 0, .int .u32 0, .int .u32 0, .int .u32 0, .int .u32 0, .int .u32 0] 99)) (HB.out.size) tbl)
  have HR2 := Aside0.mk (Kd.C_below HR0.out HB2.out)
  obtain ⟨W, hW⟩ : ∃ W, W = (w1.alloc (.cells #[.int .u32 0, .int .u32 0, .int .u32 0, .int .u32 0, .int .u32 0, .int .u32 0, .int .u32 0, .int .u32 0, .int .u32 0, .int .u32 0, .int .u32 0, .int .u32 0, .int .u32 0, .int .u32 0, .int .u32 0, .int .u32 0] 99)).setRow w1.heap.size tbl := ⟨_, rfl⟩
  rw [← hW] at HC HB2 HR2 ⊢
  clear hW
  have hl2 : (0 : Int) ≤ (l0.length : Int) := Int.natCast_nonneg _
  go_loop [4, 10] (fun n v => ∃ k : Nat, k ≤ l0.length ∧ v = .int .i64 k ∧ n = .int .u32 ((CrcMath.crcS CrcMath.ones (l0.take k)).toNat : Int)) (fun _ v => l0.length - (intOf v).toNat)
  case atStart => exact ⟨0, by omega, rfl, rfl⟩
  case round =>
    obtain ⟨k, hk, rfl, rfl⟩ := hrel
    by_cases hlt : k < l0.length
    · have hb : decide ((k : Int) < (l0.length : Int)) = true := by simp; omega
      have S := Aside0.mk (crcS_snoc CrcMath.ones l0 k hlt)
      obtain ⟨ad, e1, hc⟩ := Kd.at_int HR2.out (k : Int) (by omega) (by omega)
      cases e1
      rw [Int.toNat_natCast] at hc
      generalize hs : CrcMath.crcS CrcMath.ones (l0.take k) = s at *
      generalize hcq : rd l0 (k : Int) = c at *
      clear hs
      obtain ⟨v1, hv1⟩ : ∃ v, v = s ^^^ BitVec.ofInt 32 c := ⟨_, rfl⟩
      obtain ⟨v2, hv2⟩ : ∃ v, v = CrcMath.stN 4 v1 := ⟨_, rfl⟩
      obtain ⟨v3, hv3⟩ : ∃ v, v = CrcMath.stN 4 v2 := ⟨_, rfl⟩
      have S' := Aside0.mk (S.out.trans ((congrArg (fun z => CrcMath.stN 4 (CrcMath.stN 4 z)) hv1.symm).trans ((congrArg (CrcMath.stN 4) hv2.symm).trans hv3.symm)))
      have q1 := (bits_byte32 s c).trans (congrArg (fun z : BitVec 32 => (z.toNat : Int)) hv1.symm)
      have q2 := bits_and15 v1
      have q3 := (step16 v1).trans (congrArg (fun z : BitVec 32 => (z.toNat : Int)) hv2.symm)
      have q4 := bits_and15 v2
      have q5 := (step16 v2).trans (congrArg (fun z : BitVec 32 => (z.toNat : Int)) hv3.symm)
      have m1 : v1.toNat % 16 < 16 := Nat.mod_lt _ (by omega)
      have m2 : v2.toNat % 16 < 16 := Nat.mod_lt _ (by omega)
      have cA : W.cell? ⟨w1.heap.size, v1.toNat % 16, none⟩ = some (.int .u32 ((CrcMath.stN 4 (BitVec.ofNat 32 (v1.toNat % 16))).toNat : Int)) := (blk_cell HC.out _).trans (tbl_all m1)
      have cB : W.cell? ⟨w1.heap.size, v2.toNat % 16, none⟩ = some (.int .u32 ((CrcMath.stN 4 (BitVec.ofNat 32 (v2.toNat % 16))).toNat : Int)) := (blk_cell HC.out _).trans (tbl_all m2)
      clear S hv1 hv2 hv3 hcq
      generalize v1.toNat % 16 = i1 at *
      generalize v2.toNat % 16 = i2 at *
      go_wp2_with fail
      go_round
      case rel => exact ⟨k + 1, by omega, by go_num, by rw [S'.out]⟩
      case measure => simp [intOf]; omega
    · have hb : decide ((k : Int) < (l0.length : Int)) = false := by simp; omega
      obtain rfl : k = l0.length := by omega
      go_wp2_with fail
      go_ret
      exact ⟨by simp [crcI_max], HB2.out⟩
end Go.Proofs.YtmeblifbkhpdnaaDoor.K
namespace Go.Proofs.YtmeblifbkhpdnaaDoor.K
set_option linter.unusedVariables false
set_option linter.unusedSimpArgs false
open Go.RowKit Go.Proofs.YtmeblifbkhpdnaaDoorW.PrintWords Go.Proofs.YtmeblifbkhpdnaaDoorW.PrintLast Go.Proofs.YtmeblifbkhpdnaaDoorW.PrintMore
def orL : List Int → Int
  | [] => 0
  | c :: t => if c = 0 then orL t else c
theorem orL_drop (l : List Int) (k : Nat) (h : k < l.length) : orL (l.drop k) = if rd l (k : Int) = 0 then orL (l.drop (k + 1)) else rd l (k : Int) := by
  rw [List.drop_eq_getElem_cons h, rd_at l k h]
  rfl
set_option maxHeartbeats 800000 in
theorem cmp_Or (A0 : Option Addr) (c0 : Nat) (l0 : List Int) (w : World) (hr0 : Kd.C (Kd.int .i64) w A0 l0.length l0) :
    Calls Tryd.prog 87 #[.slice A0 l0.length c0] w fun e w' => e = .returned (.int .i64 (orL l0)) ∧ w = w' := by
  have HR0 := Aside0.mk hr0
  have hlen := hr0.2.1
  clear hr0
  go_enter Tryd.func87, Tryd.ntmps87
  go_wp2_with fail
  go_loop [8] (fun v => ∃ k : Nat, k ≤ l0.length ∧ v = .int .i64 k ∧ Aside0 (orL (l0.drop k) = orL l0)) (fun v => l0.length - (intOf v).toNat)
  case atStart => exact ⟨0, by omega, rfl, ⟨rfl⟩⟩
  case round =>
    obtain ⟨k, hk, rfl, HO⟩ := hrel
    by_cases hlt : k < l0.length
    · have hb : decide ((k : Int) < (l0.length : Int)) = true := by simp; omega
      have HS := Aside0.mk (orL_drop l0 k hlt)
      obtain ⟨ad, e1, hc⟩ := Kd.at_int HR0.out (k : Int) (by omega) (by omega)
      cases e1
      rw [Int.toNat_natCast] at hc
      generalize hz : rd l0 (k : Int) = z at *
      clear hz
      by_cases hz : z = 0
      · have h0 : (z != 0) = false := by rw [hz]; rfl
        have HZ := Aside0.mk hz
        clear hz
        go_wp2_with fail
        go_round
        case rel => exact ⟨k + 1, by omega, by go_num, ⟨by have h := HS.out; rw [if_pos HZ.out, HO.out] at h; exact h.symm⟩⟩
        case measure => simp [intOf]; omega
      · have h0 : (z != 0) = true := by rw [bne_iff_ne]; exact hz
        have HZ := Aside0.mk hz
        clear hz
        go_wp2_with fail
        go_ret
        exact ⟨by have h := HS.out; rw [if_neg HZ.out, HO.out] at h; rw [h]; rfl, rfl⟩
    · have hb : decide ((k : Int) < (l0.length : Int)) = false := by simp; omega
      obtain rfl : k = l0.length := by omega
      go_wp2_with fail
      go_ret
      exact ⟨by have h := HO.out; rw [List.drop_length] at h; rw [← h]; rfl, rfl⟩
def keepE (e x : Int) : Int := if e = 0 then x else e
theorem orL_two (e x : Int) : orL [e, x] = keepE e x := by
  unfold keepE
  simp only [orL]
  by_cases he : e = 0
  · by_cases hx : x = 0 <;> simp [he, hx]
  · simp [he]
def U8 (w : World) (A : Option Addr) : Prop := ∀ ad, A = some ad → ∃ cells, w.heap[ad.block]? = some (.cells cells 5 (0, 0))
def Rd (w : World) (g : Nat) (l : List Int) (e : Int) : Prop :=
  ∃ A c, w.heap[g]? = some (.cells #[.slice A l.length c, .int .i64 e] 86 (0, 0)) ∧ l.length ≤ c ∧ Kd.C (Kd.int .u8) w A l.length l ∧ CrcMath.Bytes l ∧ U8 w A
theorem bytes_nil : CrcMath.Bytes [] := fun c hc => by cases hc
theorem Rd.bytes {w : World} {g : Nat} {l : List Int} {e : Int} (h : Rd w g l e) : CrcMath.Bytes l := by
  obtain ⟨A, c, _, _, _, h, _⟩ := h
  exact h
theorem Rd.lt {w : World} {g : Nat} {l : List Int} {e : Int} (h : Rd w g l e) : g < w.heap.size := by
  obtain ⟨A, c, h1, _⟩ := h
  exact blk_lt h1
theorem bytes_far {w : World} {g : Nat} {v1 v2 : Value} {t : TypeId} {A : Option Addr} {n : Nat} {l : List Int} (hg : w.heap[g]? = some (.cells #[v1, v2] t (0, 0))) (h1 : ∀ x, v1 ≠ .int .u8 x) (h2 : ∀ x, v2 ≠ .int .u8 x)
    (hc : Kd.C (Kd.int .u8) w A n l) : ∀ ad, A = some ad → 0 < n → ad.block ≠ g := by
  intro ad ha hn he
  obtain ⟨ad2, e2, hx⟩ := Kd.at_int hc 0 (by omega) (by omega)
  rw [ha] at e2
  cases e2
  have hz : (ad.add (0 : Int).toNat) = ad := by
    unfold Addr.add
    split <;> simp_all
  rw [hz] at hx
  obtain ⟨b, o, q⟩ := ad
  subst he
  cases q with
  | none =>
    rw [blk_cell hg o] at hx
    match o with
    | 0 => simp at hx; exact h1 _ hx
    | 1 => simp at hx; exact h2 _ hx
    | o + 2 => simp at hx
  | some q => simp [World.cell?, hg] at hx
theorem bytes_grown {w w1 : World} {g : Nat} {A : Option Addr} {n : Nat} {l : List Int} (hc : Kd.C (Kd.int .u8) w A n l) (hg : w.grownBy w1 (some g)) (hf : ∀ ad, A = some ad → 0 < n → ad.block ≠ g) : Kd.C (Kd.int .u8) w1 A n l :=
  Kd.C_keep (g := g) (0 : Int) hc ⟨hg.size, fun i hi hne _ => hg.block i hi (by simpa using hne)⟩ hf
theorem grown_set {w W : World} {g j : Nat} {v : Value} (h : w.grownBy W (some g)) : w.grownBy (W.setCell ⟨g, j, none⟩ v) (some g) :=
  ⟨by rw [← h.os]; exact (Below.refl 0 _ |>.setCell (by simp) _).os, by rw [← h.tape]; exact (Below.refl 0 _ |>.setCell (by simp) _).tape, by rw [← h.output]; exact (Below.refl 0 _ |>.setCell (by simp) _).output, Nat.le_trans h.size (Below.refl 0 _ |>.setCell (by simp) _).size, fun i hi hne => (Below.heap_setCell W _ _ i (by simpa using hne)).trans (h.block i hi hne)⟩
theorem grown_drew {w W : World} {r : Option Nat} (h : w.grownBy W r) : w.grownBy W.drew r := ⟨h.os, h.tape, h.output, h.size, h.block⟩
theorem Rd.of_set {w : World} {g : Nat} {v1 v2 : Value} {A : Option Addr} {c : Nat} {l : List Int} {e : Int} (hg : w.heap[g]? = some (.cells #[v1, v2] 86 (0, 0))) (h1 : ∀ x, v1 ≠ .int .u8 x) (h2 : ∀ x, v2 ≠ .int .u8 x)
    (hc : Kd.C (Kd.int .u8) w A l.length l) (hl : l.length ≤ c) (hb : CrcMath.Bytes l) (hu : U8 w A) {W : World} (hW : W.heap[g]? = some (.cells #[.slice A l.length c, .int .i64 e] 86 (0, 0))) (hgr : w.grownBy W (some g)) : Rd W g l e :=
  ⟨A, c, hW, hl, bytes_grown hc hgr (bytes_far hg h1 h2 hc), hb, fun ad ha => by
    obtain ⟨cells, hcl⟩ := hu ad ha
    exact ⟨cells, blk_grown hcl hgr (fun q => blk_ne hcl hg (by decide) (Option.some.inj q))⟩⟩
set_option maxHeartbeats 800000 in
theorem rd_Err (w : World) (g : Nat) (l : List Int) (e : Int) (h : Rd w g l e) :
    Calls Tryd.prog 54 #[.pointer (some ⟨g, 0, none⟩)] w fun en w' => en = .returned (.int .i64 e) ∧ w = w' := by
  obtain ⟨A, c, h1, _⟩ := h
  have hc1 : w.cell? ⟨g, 1, none⟩ = some (.int .i64 e) := blk_cell h1 1
  clear h1
  go_enter Tryd.func54, Tryd.ntmps54
  go_wp2_with fail
  go_ret
  exact ⟨rfl, rfl⟩
set_option maxHeartbeats 800000 in
theorem rd_Left (w : World) (g : Nat) (l : List Int) (e : Int) (h : Rd w g l e) :
    Calls Tryd.prog 57 #[.pointer (some ⟨g, 0, none⟩)] w fun en w' => en = .returned (.int .i64 (l.length : Int)) ∧ w = w' := by
  obtain ⟨A, c, h1, _⟩ := h
  have hc1 : w.cell? ⟨g, 0, none⟩ = some (.slice A l.length c) := blk_cell h1 0
  clear h1
  go_enter Tryd.func57, Tryd.ntmps57
  go_wp2_with fail
  go_ret
  exact ⟨rfl, rfl⟩
set_option maxHeartbeats 800000 in
theorem rd_fail (w : World) (g : Nat) (l : List Int) (e x : Int) (h : Rd w g l e) :
    Calls Tryd.prog 56 #[.pointer (some ⟨g, 0, none⟩), .int .i64 x] w fun en w' => en = .returned (.tuple #[]) ∧ Rd w' g [] (keepE e x) ∧ w.grownBy w' (some g) := by
  have hlt := h.lt
  obtain ⟨A, c, h1, _⟩ := h
  have hc0 : w.cell? ⟨g, 0, none⟩ = some (.slice A l.length c) := blk_cell h1 0
  have hc1 : w.cell? ⟨g, 1, none⟩ = some (.int .i64 e) := blk_cell h1 1
  have hf0 := blk_frozen h1 0
  have hf1 := blk_frozen h1 1
  have H1 := Aside0.mk h1
  clear h1
  go_enter Tryd.func56, Tryd.ntmps56
  go_wp2_with fail
  refine (cmp_Or _ 2 [e, x] _ (lit_C .i64 w 25 (0, 0) [e, x] (by simp))).mono ?_
  rintro en w1 ⟨rfl, rfl⟩
  rw [orL_two]
  go_wp2_with fail
  go_end0
  refine ⟨rfl, ⟨none, 0, ?_, Nat.le_refl _, Kd.C_nil _ _, bytes_nil, fun ad h => by cases h⟩, ?_⟩
  · have h2 := blk_alloc (blk_set (blk_set H1.out 0 (.slice none 0 0)) 1 (.int .i64 (keepE e x))) (.cells (nums .i64 [e, x]).toArray 25)
    simpa using h2
  · exact (grown_set (grown_set (World.grownBy.refl w _))).trans (World.grownBy_alloc _ _ _)
end Go.Proofs.YtmeblifbkhpdnaaDoor.K
namespace Go.Proofs.YtmeblifbkhpdnaaDoor.K
set_option linter.unusedVariables false
set_option linter.unusedSimpArgs false
open Go.RowKit Go.Proofs.YtmeblifbkhpdnaaDoorW.PrintWords Go.Proofs.YtmeblifbkhpdnaaDoorW.PrintLast Go.Proofs.YtmeblifbkhpdnaaDoorW.PrintMore
set_option maxHeartbeats 1600000 in
theorem rd_next_none (w : World) (g : Nat) (l : List Int) (e : Int) (h : Rd w g l e) (hn : e ≠ 0 ∨ l = []) :
    Calls Tryd.prog 58 #[.pointer (some ⟨g, 0, none⟩)] w fun en w' => en = .returned (.tuple #[.int .u8 0, .bool false]) ∧ Rd w' g [] (keepE e 3) ∧ w.grownBy w' (some g) := by
  have HR := Aside0.mk h
  obtain ⟨A, c, h1, _⟩ := h
  have hc0 : w.cell? ⟨g, 0, none⟩ = some (.slice A l.length c) := blk_cell h1 0
  have hc1 : w.cell? ⟨g, 1, none⟩ = some (.int .i64 e) := blk_cell h1 1
  clear h1
  by_cases he : e = 0
  · have hl : l.length = 0 := by
      rcases hn with h | h
      · exact absurd he h
      · rw [h]; rfl
    clear hn
    subst he
    rw [hl] at hc0
    go_enter Tryd.func58, Tryd.ntmps58
    go_wp2_with fail
    refine (rd_fail _ g l 0 3 HR.out).mono ?_
    rintro en w1 ⟨rfl, hr, hg⟩
    have HR2 := Aside0.mk hr
    have HG := Aside0.mk hg
    clear hr hg
    go_wp2_with fail
    go_ret2
    exact ⟨rfl, HR2.out, HG.out⟩
  · have hb : (e != 0) = true := by rw [bne_iff_ne]; exact he
    have HE := Aside0.mk he
    clear hn he
    go_enter Tryd.func58, Tryd.ntmps58
    go_wp2_with fail
    refine (rd_fail _ g l e 3 HR.out).mono ?_
    rintro en w1 ⟨rfl, hr, hg⟩
    have HR2 := Aside0.mk hr
    have HG := Aside0.mk hg
    clear hr hg
    go_wp2_with fail
    go_ret2
    exact ⟨rfl, HR2.out, HG.out⟩
set_option maxHeartbeats 1600000 in
theorem rd_next_some (w : World) (g : Nat) (x : Int) (l : List Int) (h : Rd w g (x :: l) 0) :
    Calls Tryd.prog 58 #[.pointer (some ⟨g, 0, none⟩)] w fun en w' => en = .returned (.tuple #[.int .u8 x, .bool true]) ∧ Rd w' g l 0 ∧ w.grownBy w' (some g) := by
  obtain ⟨A, c, h1, hc, hC, hB, hU⟩ := h
  have HU := Aside0.mk hU
  clear hU
  have HBY : Aside0 (CrcMath.Bytes l) := ⟨fun z hz => hB z (List.mem_cons_of_mem _ hz)⟩
  clear hB
  rw [List.length_cons] at h1 hc hC
  obtain ⟨ad, e1, hx⟩ := Kd.at_int hC 0 (by omega) (by omega)
  cases e1
  have hz : ad.add (0 : Int).toNat = ad := by
    unfold Addr.add
    split <;> simp_all
  rw [hz] at hx
  have hrd : rd (x :: l) 0 = x := rfl
  rw [hrd] at hx
  clear hrd hz
  have hc0 : w.cell? ⟨g, 0, none⟩ = some (.slice (some ad) (l.length + 1) c) := blk_cell h1 0
  have hc1 : w.cell? ⟨g, 1, none⟩ = some (.int .i64 0) := blk_cell h1 1
  have hf0 := blk_frozen h1 0
  have H1 := Aside0.mk h1
  have HC := Aside0.mk hC
  have hlen := hC.2.1
  clear h1 hC
  obtain ⟨A', hcut, hAC, hcap, hblk⟩ := bytes_drop .i64 (some ad) c (x :: l) 1 (by simp) (by simpa using hc)
  have HC2 := Aside0.mk (hAC w (by simpa using HC.out))
  have HCAP := Aside0.mk hcap
  have HU2 : Aside0 (U8 w A') := ⟨fun ad' h => by obtain ⟨ad2, e1, e2⟩ := hblk ad' h; rw [e2]; exact HU.out ad2 e1⟩
  clear hblk
  have hcut2 : ∀ W : World, (Instr.slice 22 (.slice (some ad) (l.length + 1) c) (some (.int .i64 1)) none none).run Tryd.prog W = .ok (.slice A' l.length (c - 1)) W := by simpa using hcut
  clear hcut hAC hcap hc
  go_enter Tryd.func58, Tryd.ntmps58
  go_wp2_with fail
  go_region
  go_wp2_with fail
  go_ret2
  have hgr : w.grownBy (w.setCell ⟨g, 0, none⟩ (.slice A' l.length (c - 1))).drew (some g) := grown_drew (grown_set (World.grownBy.refl w _))
  refine ⟨rfl, Rd.of_set H1.out (by simp) (by simp) HC2.out HCAP.out HBY.out HU2.out ?_ hgr, hgr⟩
  exact blk_drew (blk_set H1.out 0 (.slice A' l.length (c - 1)))
end Go.Proofs.YtmeblifbkhpdnaaDoor.K
namespace Go.Proofs.YtmeblifbkhpdnaaDoor.K
set_option linter.unusedVariables false
set_option linter.unusedSimpArgs false
open Go.RowKit Go.Proofs.YtmeblifbkhpdnaaDoorW.PrintWords Go.Proofs.YtmeblifbkhpdnaaDoorW.PrintLast Go.Proofs.YtmeblifbkhpdnaaDoorW.PrintMore
def be (l : List Int) : Int := l.foldl (fun x c => x * 256 + c) 0
theorem be_snoc (l : List Int) (k : Nat) (h : k < l.length) : be (l.take (k + 1)) = be (l.take k) * 256 + rd l (k : Int) := by
  rw [List.take_succ_eq_append_getElem h, rd_at l k h]
  unfold be
  rw [List.foldl_append]
  rfl
theorem be_range (l : List Int) (hb : CrcMath.Bytes l) : ∀ k, k ≤ l.length → 0 ≤ be (l.take k) ∧ be (l.take k) < 256 ^ k
  | 0, _ => by simp [be]
  | k + 1, hk => by
    have ih := be_range l hb k (by omega)
    have h := hb l[k] (List.getElem_mem (by omega))
    rw [be_snoc l k (by omega), rd_at l k (by omega), Int.pow_succ]
    omega
def rNum (n : Nat) (l : List Int) (e : Int) : Int × List Int × Int := if e ≠ 0 then (0, l, e) else if l.length < n then (0, [], 3) else (be (l.take n), l.drop n, 0)
set_option maxHeartbeats 800000 in
theorem bits_sized (n : Nat) (hn : n = 1 ∨ n = 2 ∨ n = 4) (w : World) : Calls Tryd.prog 55 #[.int .i64 ((8 * n : Nat) : Int)] w fun en w' => en = .returned (.bool true) ∧ w = w' := by
  rcases hn with rfl | rfl | rfl
  all_goals
    go_enter Tryd.func55, Tryd.ntmps55
    go_wp2_with fail
    go_ret
    exact ⟨rfl, rfl⟩
theorem or64 (x c : Int) (h0 : 0 ≤ x) (h1 : x * 256 < 18446744073709551616) (h2 : 0 ≤ c) (h3 : c < 256) : Go.bits .or .u64 (x * 256) c = x * 256 + c := by
  obtain ⟨x, rfl⟩ := Int.eq_ofNat_of_zero_le h0
  obtain ⟨c, rfl⟩ := Int.eq_ofNat_of_zero_le h2
  have hx : x * 256 < 2 ^ 64 := by omega
  have hc : c < 2 ^ 64 := by omega
  have e : ((x : Int) * 256) = ((x * 256 : Nat) : Int) := by simp
  have hw : ∀ n : Int, 0 ≤ n → n < 2 ^ 64 → IntKind.u64.wrap n = n := fun n a b => by
    have : IntKind.u64.wrap n = n % 18446744073709551616 := by simp [IntKind.wrap, IntKind.bits, IntKind.signed]
    rw [this]
    exact Int.emod_eq_of_lt a b
  rw [e, (bits_nat .u64 64 (by decide) hw (x * 256) c hx hc).2]
  have h8 : c < 2 ^ 8 := by omega
  rw [show x * 256 = 2 ^ 8 * x by omega, ← Nat.two_pow_add_eq_or_of_lt h8]
  omega
theorem wrap_u64 (n : Int) (h0 : 0 ≤ n) (h1 : n < 18446744073709551616) : IntKind.u64.wrap n = n := by
  have : IntKind.u64.wrap n = n % 18446744073709551616 := by simp [IntKind.wrap, IntKind.bits, IntKind.signed]
  rw [this]
  exact Int.emod_eq_of_lt h0 h1
theorem num_step (x c : Int) (h0 : 0 ≤ x) (h1 : x * 256 < 18446744073709551616) (h2 : 0 ≤ c) (h3 : c < 256) : Go.bits .or .u64 (IntKind.u64.wrap (x * 256)) (IntKind.u64.wrap c) = x * 256 + c := by
  rw [wrap_u64 c h2 (by omega), wrap_u64 (x * 256) (by omega) h1, or64 x c h0 h1 h2 h3]
set_option maxHeartbeats 1600000 in
theorem rd_Num (n : Nat) (hn : n = 1 ∨ n = 2 ∨ n = 4) (w : World) (g : Nat) (l : List Int) (e : Int) (h : Rd w g l e) (s : Int) (hs : s = ((8 * n : Nat) : Int)) :
    Calls Tryd.prog 25 #[.pointer (some ⟨g, 0, none⟩), .int .i64 s] w fun en w' => en = .returned (.int .u64 (rNum n l e).1) ∧ Rd w' g (rNum n l e).2.1 (rNum n l e).2.2 ∧ w.grownBy w' (some g) := by
  have HR := Aside0.mk h
  have HBY := Aside0.mk h.bytes
  clear h
  have hn4 : n ≤ 4 := by omega
  have hn1 : 1 ≤ n := by omega
  have HS := Aside0.mk hs
  have HN := Aside0.mk hn
  have hdv : wrap64 (s.tdiv 8) = (n : Int) := by
    rw [hs, Int.tdiv_eq_ediv_of_nonneg (by omega), wrap64_in (by omega) (by omega)]
    omega
  clear hs hn
  by_cases he : e = 0
  · subst he
    by_cases hl : l.length < n
    · have e1 : rNum n l 0 = (0, [], 3) := by unfold rNum; rw [if_neg (by simp), if_pos hl]
      rw [e1]
      have hb : decide (l.length < n) = true := by simpa using hl
      clear hl e1
      go_enter Tryd.func25, Tryd.ntmps25
      go_wp2_with fail
      refine (rd_Err _ g l 0 HR.out).mono ?_
      rintro en w1 ⟨rfl, rfl⟩
      go_wp2_with fail
      rw [HS.out]
      refine (bits_sized n HN.out _).mono ?_
      rintro en w1 ⟨rfl, rfl⟩
      rw [← HS.out]
      go_wp2_with fail
      refine (rd_Left _ g l 0 HR.out).mono ?_
      rintro en w1 ⟨rfl, rfl⟩
      go_wp2_with fail
      refine (rd_fail _ g l 0 3 HR.out).mono ?_
      rintro en w1 ⟨rfl, hr, hg⟩
      have HR2 := Aside0.mk hr
      have HG := Aside0.mk hg
      clear hr hg
      go_wp2_with fail
      go_ret
      exact ⟨rfl, HR2.out, HG.out⟩
    · have e1 : rNum n l 0 = (be (l.take n), l.drop n, 0) := by unfold rNum; rw [if_neg (by simp), if_neg hl]
      rw [e1]
      have hb : decide (l.length < n) = false := by simpa using hl
      have hbI : decide ((l.length : Int) < (n : Int)) = false := by simp; omega
      have hle : n ≤ l.length := by omega
      clear hl e1
      go_enter Tryd.func25, Tryd.ntmps25
      go_wp2_with fail
      refine (rd_Err _ g l 0 HR.out).mono ?_
      rintro en w1 ⟨rfl, rfl⟩
      go_wp2_with fail
      rw [HS.out]
      refine (bits_sized n HN.out _).mono ?_
      rintro en w1 ⟨rfl, rfl⟩
      rw [← HS.out]
      go_wp2_with fail
      refine (rd_Left _ g l 0 HR.out).mono ?_
      rintro en w1 ⟨rfl, rfl⟩
      go_wp2_with fail
      rw [hdv]
      go_loopw [4, 27] (fun x v wr => ∃ k : Nat, k ≤ n ∧ v = .int .i64 k ∧ x = .int .u64 (be (l.take k)) ∧ Aside0 (Rd wr g (l.drop k) 0) ∧ Aside0 (w.grownBy wr (some g))) (fun _ v _ => n - (intOf v).toNat)
      case atStart => exact ⟨0, by omega, rfl, rfl, HR, ⟨World.grownBy.refl w _⟩⟩
      case round =>
        obtain ⟨k, hk, rfl, rfl, HR2, HG⟩ := hrel
        by_cases hlt : k < n
        · have hb2 : decide ((k : Int) < (n : Int)) = true := by simp; omega
          have HS2 := Aside0.mk (be_snoc l k (by omega))
          have hd := List.drop_eq_getElem_cons (show k < l.length by omega)
          have hr2 := HR2.out
          rw [hd] at hr2
          have hrg := be_range l HBY.out k (by omega)
          have hxb := HBY.out l[k] (List.getElem_mem (by omega))
          have hp : (256 : Int) ^ k ≤ 16777216 := by
            have : k = 0 ∨ k = 1 ∨ k = 2 ∨ k = 3 := by omega
            rcases this with rfl | rfl | rfl | rfl <;> decide
          have hst := num_step (be (l.take k)) l[k] hrg.1 (by omega) hxb.1 hxb.2
          rw [rd_at l k (by omega)] at HS2
          generalize l[k] = x at *
          generalize be (l.take k) = y at *
          have HR3 := Aside0.mk hr2
          clear hr2 hd hrg hxb hp
          go_wp2_with fail
          refine (rd_next_some _ g x _ HR3.out).mono ?_
          rintro en w1 ⟨rfl, hr, hg⟩
          have HR4 := Aside0.mk hr
          have HG4 := Aside0.mk (HG.out.trans hg)
          clear hr hg HG
          go_wp2_with fail
          go_roundw
          case rel => exact ⟨k + 1, by omega, by go_num, by rw [HS2.out], HR4, HG4⟩
          case measure => simp [intOf]; omega
        · have hb2 : decide ((k : Int) < (n : Int)) = false := by simp; omega
          obtain rfl : k = n := by omega
          go_wp2_with fail
          go_ret
          exact ⟨rfl, HR2.out, HG.out⟩
  · have e1 : rNum n l e = (0, l, e) := by unfold rNum; rw [if_pos he]
    rw [e1]
    have hb : (e != 0) = true := by rw [bne_iff_ne]; exact he
    clear he e1
    go_enter Tryd.func25, Tryd.ntmps25
    go_wp2_with fail
    refine (rd_Err _ g l e HR.out).mono ?_
    rintro en w1 ⟨rfl, rfl⟩
    go_wp2_with fail
    go_ret
    exact ⟨rfl, HR.out, World.grownBy.refl w _⟩
end Go.Proofs.YtmeblifbkhpdnaaDoor.K
namespace Go.Proofs.YtmeblifbkhpdnaaDoor.K
set_option linter.unusedVariables false
set_option linter.unusedSimpArgs false
open Go.RowKit Go.Proofs.YtmeblifbkhpdnaaDoorW.PrintWords Go.Proofs.YtmeblifbkhpdnaaDoorW.PrintLast Go.Proofs.YtmeblifbkhpdnaaDoorW.PrintMore
def vr : Nat → Int → List Int → Int × List Int × Int
  | _, _, [] => (0, [], 3)
  | i, u, c :: t => if i = 9 ∧ 1 < c then (0, [], 9) else if 0 < i ∧ c = 0 then (0, [], 4) else if c < 128 then (u + c % 128 * 128 ^ i, t, 0) else vr (i + 1) (u + c % 128 * 128 ^ i) t
def rVar (l : List Int) (e : Int) : Int × List Int × Int := if e ≠ 0 then (0, [], e) else vr 0 0 l
theorem and127 (c : Int) (h0 : 0 ≤ c) (h1 : c < 256) : Go.bits .and .u8 c 127 = c % 128 := bits_mask .u8 8 (by decide) (fun n a b => by rw [IntKind.wrap_u8]; exact Int.emod_eq_of_lt a b) 7 (by decide) c h0 h1
theorem or_shift (u d : Int) (i : Nat) (hu0 : 0 ≤ u) (hu : u < 128 ^ i) (hi : i ≤ 9) (hd0 : 0 ≤ d) (hd : d * 128 ^ i < 18446744073709551616) : Go.bits .or .u64 u (d * 128 ^ i) = u + d * 128 ^ i := by
  obtain ⟨u, rfl⟩ := Int.eq_ofNat_of_zero_le hu0
  obtain ⟨d, rfl⟩ := Int.eq_ofNat_of_zero_le hd0
  have ep : (128 : Int) ^ i = ((2 ^ (7 * i) : Nat) : Int) := by
    rw [Nat.pow_mul]
    simp
  rw [ep] at hu hd ⊢
  have hu' : u < 2 ^ (7 * i) := Int.ofNat_lt.1 hu
  have e : ((d : Int) * ((2 ^ (7 * i) : Nat) : Int)) = ((d * 2 ^ (7 * i) : Nat) : Int) := (Int.natCast_mul _ _).symm
  rw [e] at hd ⊢
  have hd' : d * 2 ^ (7 * i) < 2 ^ 64 := Int.ofNat_lt.1 hd
  have hw : ∀ n : Int, 0 ≤ n → n < 2 ^ 64 → IntKind.u64.wrap n = n := fun n a b => wrap_u64 n a b
  have hu2 : u < 2 ^ 64 := Nat.lt_of_lt_of_le hu' (Nat.pow_le_pow_right (by omega) (by omega))
  rw [(bits_nat .u64 64 (by decide) hw u (d * 2 ^ (7 * i)) hu2 hd').2, Nat.or_comm, Nat.mul_comm d, ← Nat.two_pow_add_eq_or_of_lt hu']
  omega
theorem pow128 (i : Nat) : (2 : Int) ^ (7 * i) = 128 ^ i := by
  rw [Int.pow_mul]
  rfl
theorem pow128_le (i : Nat) (h : i ≤ 9) : (128 : Int) ^ i ≤ 9223372036854775808 ∧ (i ≤ 8 → (128 : Int) ^ i ≤ 72057594037927936) := by
  have : i = 0 ∨ i = 1 ∨ i = 2 ∨ i = 3 ∨ i = 4 ∨ i = 5 ∨ i = 6 ∨ i = 7 ∨ i = 8 ∨ i = 9 := by omega
  rcases this with rfl | rfl | rfl | rfl | rfl | rfl | rfl | rfl | rfl | rfl <;> decide
theorem vr_step (u c : Int) (i : Nat) (hi : i ≤ 9) (hu0 : 0 ≤ u) (hu : u < 128 ^ i) (hc0 : 0 ≤ c) (hc1 : c < 256) (h9 : i = 9 → c ≤ 1) :
    Go.bits .or .u64 u (IntKind.u64.wrap (IntKind.u64.wrap (Go.bits .and .u8 c 127) * 2 ^ (7 * i))) = u + c % 128 * 128 ^ i ∧ 0 ≤ u + c % 128 * 128 ^ i ∧ (u + c % 128 * 128 ^ i < 128 ^ (i + 1)) := by
  rw [and127 c hc0 hc1, wrap_u64 (c % 128) (by omega) (by omega), pow128]
  have hp := pow128_le i hi
  have hpos : (0 : Int) < 128 ^ i := Int.pow_pos (by omega)
  have hd0 : 0 ≤ c % 128 := by omega
  have hd1 : c % 128 ≤ 127 := by omega
  have hmul : 0 ≤ c % 128 * 128 ^ i := Int.mul_nonneg hd0 (by omega)
  have hlt : c % 128 * 128 ^ i < 18446744073709551616 := by
    by_cases h : i = 9
    · have h1 : c % 128 ≤ 1 := by have := h9 h; omega
      have := Int.mul_le_mul_of_nonneg_right h1 (show (0 : Int) ≤ 128 ^ i by omega)
      omega
    · have := Int.mul_le_mul_of_nonneg_right hd1 (show (0 : Int) ≤ 128 ^ i by omega)
      have := hp.2 (by omega)
      omega
  rw [wrap_u64 _ hmul hlt, or_shift u (c % 128) i hu0 hu hi hd0 hlt]
  refine ⟨rfl, by omega, ?_⟩
  have := Int.mul_le_mul_of_nonneg_right hd1 (show (0 : Int) ≤ 128 ^ i by omega)
  rw [Int.pow_succ]
  omega
set_option maxHeartbeats 1600000 in
theorem rd_Varint (w : World) (g : Nat) (l : List Int) (e : Int) (h : Rd w g l e) :
    Calls Tryd.prog 59 #[.pointer (some ⟨g, 0, none⟩)] w fun en w' => en = .returned (.int .u64 (rVar l e).1) ∧ Rd w' g (rVar l e).2.1 (rVar l e).2.2 ∧ w.grownBy w' (some g) := by
  have HR := Aside0.mk h
  have HBY := Aside0.mk h.bytes
  clear h
  by_cases he : e = 0
  · subst he
    have e1 : rVar l 0 = vr 0 0 l := by unfold rVar; rw [if_neg (by simp)]
    rw [e1]
    clear e1
    go_enter Tryd.func59, Tryd.ntmps59
    go_wp2_with fail
    go_loopw [2, 3] (fun x v wr => ∃ (i : Nat) (u : Int) (t : List Int), i ≤ 9 ∧ v = .int .i64 ((7 * i : Nat) : Int) ∧ x = .int .u64 u ∧ Aside0 (0 ≤ u ∧ u < 128 ^ i) ∧ Aside0 (vr i u t = vr 0 0 l) ∧ Aside0 (Rd wr g t 0) ∧ Aside0 (w.grownBy wr (some g))) (fun _ v _ => 70 - (intOf v).toNat)
    case atStart => exact ⟨0, 0, l, by omega, rfl, rfl, ⟨by simp⟩, ⟨rfl⟩, HR, ⟨World.grownBy.refl w _⟩⟩
    case round =>
      obtain ⟨i, u, t, hi, rfl, rfl, HU, HV, HR2, HG⟩ := hrel
      cases t with
      | nil =>
        go_wp2_with fail
        refine (rd_next_none _ g [] 0 HR2.out (.inr rfl)).mono ?_
        rintro en w1 ⟨rfl, hr, hg⟩
        have HR4 := Aside0.mk hr
        have HG4 := Aside0.mk (HG.out.trans hg)
        clear hr hg HG
        go_wp2_with fail
        go_ret
        have e := HV.out
        simp only [vr] at e
        rw [← e]
        exact ⟨rfl, HR4.out, HG4.out⟩
      | cons c t =>
        obtain ⟨hc0, hc1⟩ := HR2.out.bytes c (by simp)
        by_cases hA : i = 9 ∧ 1 < c
        · obtain ⟨rfl, h1⟩ := hA
          have e := HV.out
          rw [vr, if_pos ⟨rfl, h1⟩] at e
          have HE := Aside0.mk e
          clear e
          go_wp2_with fail
          refine (rd_next_some _ g c t HR2.out).mono ?_
          rintro en w1 ⟨rfl, hr, hg⟩
          have HR4 := Aside0.mk hr
          have HG4 := Aside0.mk (HG.out.trans hg)
          clear hr hg HG
          go_wp2_with fail
          refine (rd_fail _ g t 0 9 HR4.out).mono ?_
          rintro en w2 ⟨rfl, hr, hg⟩
          have HR5 := Aside0.mk hr
          have HG5 := Aside0.mk (HG4.out.trans hg)
          clear hr hg HG4
          go_wp2_with fail
          go_ret
          rw [← HE.out]
          exact ⟨rfl, HR5.out, HG5.out⟩
        by_cases hB : 0 < i ∧ c = 0
        · obtain ⟨h1, rfl⟩ := hB
          have e := HV.out
          rw [vr, if_neg hA, if_pos ⟨h1, rfl⟩] at e
          have HE := Aside0.mk e
          clear e hA
          go_wp2_with fail
          refine (rd_next_some _ g 0 t HR2.out).mono ?_
          rintro en w1 ⟨rfl, hr, hg⟩
          have HR4 := Aside0.mk hr
          have HG4 := Aside0.mk (HG.out.trans hg)
          clear hr hg HG
          have h7 : (0 : Int) < 7 * (i : Int) := by omega
          go_wp2_with fail
          all_goals
            refine (rd_fail _ g t 0 4 HR4.out).mono ?_
            rintro en w2 ⟨rfl, hr, hg⟩
            have HR5 := Aside0.mk hr
            have HG5 := Aside0.mk (HG4.out.trans hg)
            clear hr hg HG4
            go_wp2_with fail
            go_ret
            rw [← HE.out]
            exact ⟨rfl, HR5.out, HG5.out⟩
        have hst := vr_step u c i hi HU.out.1 HU.out.2 hc0 hc1 (fun h => by omega)
        obtain ⟨hs1, hs2, hs3⟩ := hst
        have e := HV.out
        rw [vr, if_neg hA, if_neg hB] at e
        have HA := Aside0.mk hA
        have HB := Aside0.mk hB
        have HS := Aside0.mk hs2
        have HS3 := Aside0.mk hs3
        generalize u + c % 128 * 128 ^ i = y at *
        clear hA hB hs2 hs3 HU HV
        have hw : 9 ≤ i ∧ c ≤ 1 ∧ 1 ≤ c ∨ i ≤ 8 ∧ 0 < i ∧ c ≠ 0 ∨ i ≤ 0 := by
          have := HA.out
          have := HB.out
          omega
        by_cases hC : c < 128
        · rw [if_pos hC] at e
          have HE := Aside0.mk e
          clear e
          rcases hw with ⟨h9, h1, h2⟩ | ⟨h8, h0, hz⟩ | h0
          · have h7 : (0 : Int) < 7 * (i : Int) := by omega
            have h77 : (64 : Int) < 7 * (i : Int) + 7 := by omega
            have hz2 : (c == 0) = false := beq_eq_false_iff_ne.2 (by omega)
            go_wp2_with fail
            refine (rd_next_some _ g c t HR2.out).mono ?_
            rintro en w1 ⟨rfl, hr, hg⟩
            have HR4 := Aside0.mk hr
            have HG4 := Aside0.mk (HG.out.trans hg)
            clear hr hg HG
            go_wp2_with fail
            go_ret
            rw [← HE.out]
            exact ⟨rfl, HR4.out, HG4.out⟩
          · have h7 : (0 : Int) < 7 * (i : Int) := by omega
            have h77 : 7 * (i : Int) + 7 ≤ 64 := by omega
            have hz2 : (c == 0) = false := beq_eq_false_iff_ne.2 hz
            clear hz
            go_wp2_with fail
            refine (rd_next_some _ g c t HR2.out).mono ?_
            rintro en w1 ⟨rfl, hr, hg⟩
            have HR4 := Aside0.mk hr
            have HG4 := Aside0.mk (HG.out.trans hg)
            clear hr hg HG
            go_wp2_with fail
            go_ret
            rw [← HE.out]
            exact ⟨rfl, HR4.out, HG4.out⟩
          · have h7 : 7 * (i : Int) ≤ 0 := by omega
            have h77 : 7 * (i : Int) + 7 ≤ 64 := by omega
            go_wp2_with fail
            refine (rd_next_some _ g c t HR2.out).mono ?_
            rintro en w1 ⟨rfl, hr, hg⟩
            have HR4 := Aside0.mk hr
            have HG4 := Aside0.mk (HG.out.trans hg)
            clear hr hg HG
            go_wp2_with fail
            go_ret
            rw [← HE.out]
            exact ⟨rfl, HR4.out, HG4.out⟩
        · rw [if_neg hC] at e
          have HE := Aside0.mk e
          clear e
          rcases hw with ⟨h9, h1, h2⟩ | ⟨h8, h0, hz⟩ | h0
          · omega
          · have h7 : (0 : Int) < 7 * (i : Int) := by omega
            have h77 : 7 * (i : Int) + 7 ≤ 64 := by omega
            have hz2 : (c == 0) = false := beq_eq_false_iff_ne.2 hz
            clear hz
            go_wp2_with fail
            refine (rd_next_some _ g c t HR2.out).mono ?_
            rintro en w1 ⟨rfl, hr, hg⟩
            have HR4 := Aside0.mk hr
            have HG4 := Aside0.mk (HG.out.trans hg)
            clear hr hg HG
            go_wp2_with fail
            go_roundw
            case rel => exact ⟨i + 1, y, t, by omega, by go_num, rfl, ⟨HS.out, HS3.out⟩, HE, HR4, HG4⟩
            case measure => simp [intOf]; omega
          · have h7 : 7 * (i : Int) ≤ 0 := by omega
            have h77 : 7 * (i : Int) + 7 ≤ 64 := by omega
            go_wp2_with fail
            refine (rd_next_some _ g c t HR2.out).mono ?_
            rintro en w1 ⟨rfl, hr, hg⟩
            have HR4 := Aside0.mk hr
            have HG4 := Aside0.mk (HG.out.trans hg)
            clear hr hg HG
            go_wp2_with fail
            go_roundw
            case rel => exact ⟨i + 1, y, t, by omega, by go_num, rfl, ⟨HS.out, HS3.out⟩, HE, HR4, HG4⟩
            case measure => simp [intOf]; omega
  · have e1 : rVar l e = (0, [], e) := by unfold rVar; rw [if_pos he]
    rw [e1]
    have HE := Aside0.mk he
    have h0 : (0 : Int) ≤ ((7 * 0 : Nat) : Int) := by omega
    clear he e1
    go_enter Tryd.func59, Tryd.ntmps59
    go_wp2_with fail
    refine wp_loop_rounds 1 ?_
    rw [rounds_succ]
    go_wp2_with fail
    refine (rd_next_none _ g l e HR.out (.inl HE.out)).mono ?_
    rintro en w1 ⟨rfl, hr, hg⟩
    have HR4 := Aside0.mk hr
    have HG4 := Aside0.mk hg
    clear hr hg
    have hk : keepE e 3 = e := by unfold keepE; rw [if_neg HE.out]
    rw [hk] at HR4
    clear hk
    go_wp2_with fail
    go_ret
    exact ⟨rfl, HR4.out, HG4.out⟩
end Go.Proofs.YtmeblifbkhpdnaaDoor.K
namespace Go.Proofs.YtmeblifbkhpdnaaDoor.K
set_option linter.unusedVariables false
set_option linter.unusedSimpArgs false
open Go.RowKit Go.Proofs.YtmeblifbkhpdnaaDoorW.PrintWords Go.Proofs.YtmeblifbkhpdnaaDoorW.PrintLast Go.Proofs.YtmeblifbkhpdnaaDoorW.PrintMore
theorem R_own_some {α : Type} {d : Kd α} {e base n c : Nat} {ok : Nat → Prop} {w : World} {ad : Addr} {l : List α} (h : d.R e w base ok (.slice (some ad) n c) l) : (Value.slice (some ad) n c).ownBlock = some ad.block := by
  obtain ⟨inner, _, h2⟩ := Kd.R_own h
  rcases h2 with ⟨h2, _⟩ | ⟨g, cap, cur, h2, _⟩
  · cases h2
  · injection h2 with h2 _ _
    injection h2 with h2
    subst h2
    rfl
set_option maxHeartbeats 800000 in
theorem bits_Read (w : World) (A0 : Option Addr) (c0 : Nat) (l : List Int) (hC : Kd.C (Kd.int .u8) w A0 l.length l) (hc : l.length ≤ c0) (hb : CrcMath.Bytes l) (hl : l.length < 140737488355328) :
    Calls Tryd.prog 24 #[.slice A0 l.length c0] w fun en w' => ∃ g, en = .returned (.pointer (some ⟨g, 0, none⟩)) ∧ w.heap.size ≤ g ∧ Rd w' g l 0 ∧ Below w.heap.size w w' := by
  have HC := Aside0.mk hC
  have HCC := Aside0.mk hc
  have HF : Aside0 (clone.f l = some l) := ⟨by unfold clone.f; rw [if_pos hl]⟩
  have HB := Aside0.mk hb
  clear hC hc hb hl
  go_enter Tryd.func24, Tryd.ntmps24
  go_wp2_with fail
  refine (clone.calls A0 c0 l l _ HC.out HCC.out HF.out).mono ?_
  rintro en w1 ⟨v, rfl, ho, hbb⟩
  obtain ⟨A, c, rfl, hcc, hr⟩ := R_C ho
  have HR := Aside0.mk hr
  have HBB := Aside0.mk hbb
  have HK := Aside0.mk hcc
  have HU : Aside0 (U8 w1 A) := ⟨fun ad ha => by subst ha; exact Kd.R_typed ho ad.block (R_own_some ho)⟩
  clear hr hbb hcc ho
  go_wp2_with fail
  go_ret
  have hA : Kd.C (Kd.int .u8) (w1.alloc (.cells #[.slice A l.length c, .int .i64 0] 86)) A l.length l := Kd.C_alloc HR.out _
  exact ⟨w1.heap.size, rfl, HBB.out.size, ⟨A, c, blk_new w1 _, HK.out, hA, HB.out, fun ad ha => by obtain ⟨cl, h⟩ := HU.out ad ha; exact ⟨cl, blk_alloc h _⟩⟩, below_alloc HBB.out _⟩
def rEnd (l : List Int) (e : Int) : Int := if e = 0 ∧ 0 < l.length then 4 else e
set_option maxHeartbeats 800000 in
theorem rd_End (w : World) (g : Nat) (l : List Int) (e : Int) (h : Rd w g l e) :
    Calls Tryd.prog 63 #[.pointer (some ⟨g, 0, none⟩)] w fun en w' => en = .returned (.int .i64 (rEnd l e)) ∧ w = w' := by
  have HR := Aside0.mk h
  clear h
  by_cases he : e = 0
  · subst he
    by_cases hl : 0 < l.length
    · have e1 : rEnd l 0 = 4 := by unfold rEnd; rw [if_pos ⟨rfl, hl⟩]
      rw [e1]
      have h2 : (0 : Int) < (l.length : Int) := by omega
      clear e1
      go_enter Tryd.func63, Tryd.ntmps63
      go_wp2_with fail
      refine (rd_Err _ g l 0 HR.out).mono ?_
      rintro en w1 ⟨rfl, rfl⟩
      go_wp2_with fail
      refine (rd_Left _ g l 0 HR.out).mono ?_
      rintro en w1 ⟨rfl, rfl⟩
      go_wp2_with fail
      go_ret
      exact ⟨rfl, rfl⟩
    · have e1 : rEnd l 0 = 0 := by unfold rEnd; rw [if_neg (fun h => hl h.2)]
      rw [e1]
      have h2 : (l.length : Int) ≤ 0 := by omega
      clear e1
      go_enter Tryd.func63, Tryd.ntmps63
      go_wp2_with fail
      refine (rd_Err _ g l 0 HR.out).mono ?_
      rintro en w1 ⟨rfl, rfl⟩
      go_wp2_with fail
      refine (rd_Left _ g l 0 HR.out).mono ?_
      rintro en w1 ⟨rfl, rfl⟩
      go_wp2_with fail
      refine (rd_Err _ g l 0 HR.out).mono ?_
      rintro en w1 ⟨rfl, rfl⟩
      go_wp2_with fail
      go_ret
      exact ⟨rfl, rfl⟩
  · have e1 : rEnd l e = e := by unfold rEnd; rw [if_neg (fun h => he h.1)]
    rw [e1]
    have hb : (e == 0) = false := beq_eq_false_iff_ne.2 he
    clear he e1
    go_enter Tryd.func63, Tryd.ntmps63
    go_wp2_with fail
    refine (rd_Err _ g l e HR.out).mono ?_
    rintro en w1 ⟨rfl, rfl⟩
    go_wp2_with fail
    refine (rd_Err _ g l e HR.out).mono ?_
    rintro en w1 ⟨rfl, rfl⟩
    go_wp2_with fail
    go_ret
    exact ⟨rfl, rfl⟩
theorem vr_range : ∀ (t : List Int) (i : Nat) (u : Int), CrcMath.Bytes t → i ≤ 9 → 0 ≤ u → u < 128 ^ i → 0 ≤ (vr i u t).1 ∧ (vr i u t).1 < 18446744073709551616 ∧ CrcMath.Bytes (vr i u t).2.1 ∧ (vr i u t).2.1.length ≤ t.length
  | [], i, u, _, _, _, _ => by
    rw [vr]
    exact ⟨by decide, by decide, bytes_nil, Nat.le_refl _⟩
  | c :: t, i, u, hb, hi, h0, h1 => by
    have hc := hb c (by simp)
    have hbt : CrcMath.Bytes t := fun z hz => hb z (List.mem_cons_of_mem _ hz)
    rw [vr]
    split
    · exact ⟨by decide, by decide, bytes_nil, by simp⟩
    · rename_i hA
      split
      · exact ⟨by decide, by decide, bytes_nil, by simp⟩
      · obtain ⟨_, s2, s3⟩ := vr_step u c i hi h0 h1 hc.1 hc.2 (fun h => by omega)
        have hp := pow128_le i hi
        split
        · refine ⟨s2, ?_, hbt, by simp⟩
          have hd1 : c % 128 ≤ 127 := by omega
          have hd0 : 0 ≤ c % 128 := by omega
          by_cases h : i = 9
          · have h1 : c % 128 ≤ 1 := by omega
            have := Int.mul_le_mul_of_nonneg_right h1 (show (0 : Int) ≤ 128 ^ i by omega)
            show u + c % 128 * 128 ^ i < _
            omega
          · have := Int.mul_le_mul_of_nonneg_right hd1 (show (0 : Int) ≤ 128 ^ i by omega)
            have := hp.2 (by omega)
            show u + c % 128 * 128 ^ i < _
            omega
        · rename_i hC hB
          have := vr_range t (i + 1) (u + c % 128 * 128 ^ i) hbt (by omega) s2 s3
          exact ⟨this.1, this.2.1, this.2.2.1, Nat.le_trans this.2.2.2 (by simp)⟩
theorem rVar_range (l : List Int) (e : Int) (hb : CrcMath.Bytes l) : 0 ≤ (rVar l e).1 ∧ (rVar l e).1 < 18446744073709551616 ∧ CrcMath.Bytes (rVar l e).2.1 ∧ (rVar l e).2.1.length ≤ l.length := by
  unfold rVar
  split
  · exact ⟨Int.le_refl _, (by decide : (0 : Int) < 18446744073709551616), bytes_nil, by simp⟩
  · exact vr_range l 0 0 hb (by omega) (by omega) (by omega)
def rText (l : List Int) (e : Int) : List Int × List Int × Int :=
  if (rVar l e).2.2 ≠ 0 then ([], (rVar l e).2.1, (rVar l e).2.2) else if ((rVar l e).2.1.length : Int) < (rVar l e).1 then ([], [], 3) else ((rVar l e).2.1.take (rVar l e).1.toNat, (rVar l e).2.1.drop (rVar l e).1.toNat, 0)
set_option maxHeartbeats 1600000 in
theorem rd_Text (w : World) (g : Nat) (l : List Int) (e : Int) (h : Rd w g l e) (hlen : l.length < 140737488355328) :
    Calls Tryd.prog 62 #[.pointer (some ⟨g, 0, none⟩)] w fun en w' => ∃ v, en = .returned v ∧ Kd.R (Kd.int .u8) 5 w' w.heap.size (fun _ => True) v (rText l e).1 ∧ Rd w' g (rText l e).2.1 (rText l e).2.2 ∧ w.grownBy w' (some g) := by
  have HR := Aside0.mk h
  have hrg := rVar_range l e h.bytes
  clear h
  have HV := rd_Varint w g l e HR.out
  obtain ⟨v, hv⟩ : ∃ v, v = rVar l e := ⟨_, rfl⟩
  unfold rText
  rw [← hv] at HV hrg ⊢
  clear hv
  obtain ⟨n, t, x⟩ := v
  simp only at HV hrg ⊢
  obtain ⟨h0, h1, h2, h3⟩ := hrg
  have HBY := Aside0.mk h2
  have HV' := Aside0.mk HV
  have HLN := Aside0.mk (show t.length < 140737488355328 by omega)
  clear HV h2
  by_cases hx : x = 0
  · subst hx
    rw [if_neg (by simp)]
    obtain ⟨n, rfl⟩ := Int.eq_ofNat_of_zero_le h0
    by_cases hl : (t.length : Int) < (n : Int)
    · rw [if_pos hl]
      have hlI : decide ((t.length : Int) < (n : Int)) = true := by simpa using hl
      have hlN : decide (t.length < n) = true := by simp; omega
      have hw : IntKind.u64.wrap (t.length : Int) = (t.length : Int) := wrap_u64 _ (by omega) (by omega)
      clear hl h0 h1 h3 hlen
      go_enter Tryd.func62, Tryd.ntmps62
      go_wp2_with fail
      refine HV'.out.mono ?_
      rintro en w1 ⟨rfl, hr, hg⟩
      have HR1 := Aside0.mk hr
      have HG1 := Aside0.mk hg
      clear hr hg
      go_wp2_with fail
      refine (rd_Err _ g t 0 HR1.out).mono ?_
      rintro en w2 ⟨rfl, rfl⟩
      go_wp2_with fail
      refine (rd_Left _ g t 0 HR1.out).mono ?_
      rintro en w2 ⟨rfl, rfl⟩
      go_wp2_with fail
      refine (rd_fail _ g t 0 3 HR1.out).mono ?_
      rintro en w2 ⟨rfl, hr, hg⟩
      have HR2 := Aside0.mk hr
      have HG2 := Aside0.mk (HG1.out.trans hg)
      clear hr hg
      go_wp2_with fail
      go_ret
      exact ⟨_, rfl, Kd.R_nil _ _ _ _ _, HR2.out, HG2.out⟩
    · rw [if_neg hl]
      have hlI : decide ((t.length : Int) < (n : Int)) = false := by simpa using hl
      have hlN : decide (t.length < n) = false := by simp; omega
      have hw : IntKind.u64.wrap (t.length : Int) = (t.length : Int) := wrap_u64 _ (by omega) (by omega)
      have HNL := Aside0.mk (show n ≤ t.length by omega)
      rw [Int.toNat_natCast]
      clear hl h0 h1 h3 hlen
      go_enter Tryd.func62, Tryd.ntmps62
      go_wp2_with fail
      refine HV'.out.mono ?_
      rintro en w1 ⟨rfl, hr, hg⟩
      have HR1 := Aside0.mk hr
      have HG1 := Aside0.mk hg
      clear hr hg
      go_wp2_with fail
      refine (rd_Err _ g t 0 HR1.out).mono ?_
      rintro en w2 ⟨rfl, rfl⟩
      go_wp2_with fail
      refine (rd_Left _ g t 0 HR1.out).mono ?_
      rintro en w2 ⟨rfl, rfl⟩
      obtain ⟨A, c, hb1, hb2, hb3, _, hu1⟩ := HR1.out
      have hc0 : w1.cell? ⟨g, 0, none⟩ = some (.slice A t.length c) := blk_cell hb1 0
      obtain ⟨hcut, htk, hlt⟩ := bytes_take .u64 A c t n HNL.out hb2
      obtain ⟨A', hcut2, hdr, hcap, hblk⟩ := bytes_drop .u64 A c t n HNL.out hb2
      have HB1 := Aside0.mk hb1
      have HB3 := Aside0.mk hb3
      have HTK := Aside0.mk (htk w1 hb3)
      have HDR := Aside0.mk (hdr w1 hb3)
      have HCAP := Aside0.mk hcap
      have HU2 : Aside0 (U8 w1 A') := ⟨fun ad' h => by obtain ⟨ad2, e1, e2⟩ := hblk ad' h; rw [e2]; exact hu1 ad2 e1⟩
      clear hblk hu1
      have HCL := Aside0.mk (fun W (hR : Kd.C (Kd.int .u8) W A (t.take n).length (t.take n)) => clone.calls A c (t.take n) (t.take n) W hR (by have := HNL.out; omega) (by have := HLN.out; have := HNL.out; unfold clone.f; rw [if_pos (by omega)]))
      rw [hlt] at HTK HCL
      clear hb1 hb2 hb3 htk hdr hcap hlt
      go_wp2_with fail
      refine (HCL.out _ HTK.out).mono ?_
      rintro en w2 ⟨v, rfl, ho, hbb⟩
      have HO := Aside0.mk (Kd.R_newB ho HB1.out)
      have HB2 := Aside0.mk (blk_below HB1.out hbb)
      have HBB := Aside0.mk hbb
      have hc1 : w2.cell? ⟨g, 0, none⟩ = some (.slice A t.length c) := blk_cell HB2.out 0
      have hf1 := blk_frozen HB2.out 0
      have HDR2 := Aside0.mk (Kd.C_below HDR.out hbb)
      clear ho hbb hc0
      go_wp2_with fail
      go_ret
      have hgr : w1.grownBy (w2.setCell ⟨g, 0, none⟩ (.slice A' (t.length - n) (c - n))) (some g) := grown_set ⟨HBB.out.os, HBB.out.tape, HBB.out.output, HBB.out.size, fun i hi _ => HBB.out.block i hi⟩
      have hl3 : (t.drop n).length = t.length - n := List.length_drop
      refine ⟨_, rfl, ?_, ?_, HG1.out.trans hgr⟩
      · exact Kd.R_lower (Kd.R_mono (Kd.R_far HO.out (p := ⟨g, 0, none⟩) (fun k hk => hk.2) _) (fun _ _ => trivial)) HG1.out.size
      · have hs : (w2.setCell ⟨g, 0, none⟩ (.slice A' (t.length - n) (c - n))).heap[g]? = some (.cells #[.slice A' (t.drop n).length (c - n), .int .i64 0] 86 (0, 0)) := by
          rw [hl3]
          exact blk_set HB2.out 0 _
        exact Rd.of_set HB2.out (by simp) (by simp) HDR2.out HCAP.out (fun z hz => HBY.out z (List.mem_of_mem_drop hz)) (fun ad ha => by obtain ⟨cl, h⟩ := HU2.out ad ha; exact ⟨cl, blk_below h HBB.out⟩) hs (grown_set (World.grownBy.refl w2 _))
  · rw [if_pos hx]
    have hb : (x != 0) = true := by rw [bne_iff_ne]; exact hx
    clear hx h0 h1 h3 hlen
    go_enter Tryd.func62, Tryd.ntmps62
    go_wp2_with fail
    refine HV'.out.mono ?_
    rintro en w1 ⟨rfl, hr, hg⟩
    have HR1 := Aside0.mk hr
    have HG1 := Aside0.mk hg
    clear hr hg
    go_wp2_with fail
    refine (rd_Err _ g t x HR1.out).mono ?_
    rintro en w2 ⟨rfl, rfl⟩
    go_wp2_with fail
    go_ret
    exact ⟨_, rfl, Kd.R_nil _ _ _ _ _, HR1.out, HG1.out⟩
def zag (u : Int) : Int := if u % 2 = 0 then u / 2 else -(u / 2) - 1
theorem and1_u64 (u : Int) (h0 : 0 ≤ u) (h1 : u < 18446744073709551616) : Go.bits .and .u64 u 1 = u % 2 := bits_mask .u64 64 (by decide) (fun n a b => wrap_u64 n a b) 1 (by decide) u h0 h1
theorem xor0_i64 (x : Int) (h0 : 0 ≤ x) (h1 : x < 9223372036854775808) : Go.bits .xor .i64 x 0 = x := by
  obtain ⟨x, rfl⟩ := Int.eq_ofNat_of_zero_le h0
  have hx : x < 2 ^ 64 := by omega
  show IntKind.i64.wrap (((BitVec.ofInt 64 (x : Int) ^^^ BitVec.ofInt 64 0).toNat : Nat) : Int) = _
  have e0 : BitVec.ofInt 64 0 = 0#64 := by decide
  rw [e0, BitVec.xor_zero, BitVec.ofInt_natCast, BitVec.toNat_ofNat, Nat.mod_eq_of_lt hx, IntKind.wrap_i64]
  omega
theorem xorm_i64 (x : Int) (h0 : 0 ≤ x) (h1 : x < 9223372036854775808) : Go.bits .xor .i64 x (-1) = -x - 1 := by
  obtain ⟨x, rfl⟩ := Int.eq_ofNat_of_zero_le h0
  have hx : x < 2 ^ 64 := by omega
  show IntKind.i64.wrap (((BitVec.ofInt 64 (x : Int) ^^^ BitVec.ofInt 64 (-1)).toNat : Nat) : Int) = _
  have e0 : BitVec.ofInt 64 (-1) = BitVec.allOnes 64 := by decide
  rw [e0, BitVec.xor_allOnes, BitVec.ofInt_natCast, BitVec.toNat_not, BitVec.toNat_ofNat, Nat.mod_eq_of_lt hx, IntKind.wrap_i64]
  omega
set_option maxHeartbeats 800000 in
theorem bits_Zag (u : Int) (h0 : 0 ≤ u) (h1 : u < 18446744073709551616) (w : World) :
    Calls Tryd.prog 116 #[.int .u64 u] w fun en w' => en = .returned (.int .i64 (zag u)) ∧ w = w' := by
  have ha := and1_u64 u h0 h1
  have hd0 : 0 ≤ u / 2 := by omega
  have hd1 : u / 2 < 9223372036854775808 := by omega
  by_cases he : u % 2 = 0
  · rw [he] at ha
    have hz : zag u = u / 2 := by unfold zag; rw [if_pos he]
    have hx := xor0_i64 (u / 2) hd0 hd1
    rw [hz]
    clear h1 he hz
    go_enter Tryd.func116, Tryd.ntmps116
    go_wp2_with fail
    go_ret
    exact ⟨rfl, rfl⟩
  · have he2 : u % 2 = 1 := by omega
    rw [he2] at ha
    have hz : zag u = -(u / 2) - 1 := by unfold zag; rw [if_neg he]
    have hx := xorm_i64 (u / 2) hd0 hd1
    rw [hz]
    clear h1 he hz he2
    go_enter Tryd.func116, Tryd.ntmps116
    go_wp2_with fail
    go_ret
    exact ⟨rfl, rfl⟩
set_option maxHeartbeats 800000 in
theorem rd_Int (w : World) (g : Nat) (l : List Int) (e : Int) (h : Rd w g l e) :
    Calls Tryd.prog 103 #[.pointer (some ⟨g, 0, none⟩)] w fun en w' => en = .returned (.int .i64 (zag (rVar l e).1)) ∧ Rd w' g (rVar l e).2.1 (rVar l e).2.2 ∧ w.grownBy w' (some g) := by
  have HR := Aside0.mk h
  have HG := Aside0.mk (rVar_range l e h.bytes)
  clear h
  go_enter Tryd.func103, Tryd.ntmps103
  go_wp2_with fail
  refine (rd_Varint w g l e HR.out).mono ?_
  rintro en w1 ⟨rfl, hr, hg⟩
  have HR1 := Aside0.mk hr
  have HG1 := Aside0.mk hg
  clear hr hg
  go_wp2_with fail
  refine (bits_Zag _ HG.out.1 HG.out.2.1 w1).mono ?_
  rintro en w2 ⟨rfl, rfl⟩
  go_wp2_with fail
  go_ret
  exact ⟨rfl, HR1.out, HG1.out⟩
end Go.Proofs.YtmeblifbkhpdnaaDoor.K
namespace Go.Proofs.YtmeblifbkhpdnaaDoor.K
set_option linter.unusedVariables false
set_option linter.unusedSimpArgs false
open Go.RowKit Go.Proofs.YtmeblifbkhpdnaaDoorW.PrintWords Go.Proofs.YtmeblifbkhpdnaaDoorW.PrintLast Go.Proofs.YtmeblifbkhpdnaaDoorW.PrintMore
def iTab : List Int := [0, 5, 13, 22, 2, 2, 2, 4, 1, 2]
def GItem (w : World) : Prop := ∀ j : Nat, j < 10 → w.cell? ⟨1, j, none⟩ = some (.int .i64 (rd iTab (j : Int)))
theorem cell_blk {w : World} {p : Addr} {v : Value} (h : w.cell? p = some v) : p.block < w.heap.size := by
  rcases Nat.lt_or_ge p.block w.heap.size with h1 | h1
  · exact h1
  · simp [World.cell?, Array.getElem?_eq_none h1] at h
theorem GItem.lt {w : World} (h : GItem w) : 1 < w.heap.size := cell_blk (h 0 (by omega))
theorem GItem.keep {w w' : World} {n : Nat} (h : GItem w) (hb : Below n w w') (hn : 1 < n) : GItem w' := fun j hj => (hb.cell (p := ⟨1, j, none⟩) hn).trans (h j hj)
theorem GItem.below {w w' : World} (h : GItem w) (hb : Below w.heap.size w w') : GItem w' := h.keep hb h.lt
def iHas (k what : Int) : Bool := decide (0 ≤ k) && decide (k < 10) && (bits .and .i64 (rd iTab k) what != 0)
def within (n a b : Int) : Bool := decide (a ≤ n) && decide (n ≤ b)
def qty (n : Int) : Bool := within n 1 2147483647
set_option maxHeartbeats 800000 in
theorem item_within (w : World) (n a b : Int) :
    Calls Tryd.prog 97 #[.int .i64 n, .int .i64 a, .int .i64 b] w fun en w' => en = .returned (.bool (within n a b)) ∧ w = w' := by
  unfold within
  go_enter Tryd.func97, Tryd.ntmps97
  by_cases h1 : a ≤ n
  · have hd1 : decide (a ≤ n) = true := by simpa using h1
    go_wp2_with fail
    go_ret
    exact ⟨by simp [hd1], rfl⟩
  · have hd1 : decide (a ≤ n) = false := by simpa using h1
    go_wp2_with fail
    go_ret
    exact ⟨rfl, rfl⟩
set_option maxHeartbeats 800000 in
theorem item_quantity (w : World) (n : Int) :
    Calls Tryd.prog 96 #[.int .i64 n] w fun en w' => en = .returned (.bool (qty n)) ∧ w = w' := by
  go_enter Tryd.func96, Tryd.ntmps96
  go_wp2_with fail
  refine (item_within w n 1 2147483647).mono ?_
  rintro en w1 ⟨rfl, rfl⟩
  go_wp2_with fail
  go_ret
  exact ⟨rfl, rfl⟩
set_option maxHeartbeats 800000 in
theorem item_has (w : World) (k what : Int) (hG : GItem w) :
    Calls Tryd.prog 90 #[.int .i64 k, .int .i64 what] w fun en w' => en = .returned (.bool (iHas k what)) ∧ w = w' := by
  have HG := Aside0.mk hG
  clear hG
  unfold iHas
  go_enter Tryd.func90, Tryd.ntmps90
  by_cases h1 : 0 ≤ k
  · have hd1 : decide (0 ≤ k) = true := by simpa using h1
    by_cases h2 : k < 10
    · have hd2 : decide (k < 10) = true := by simpa using h2
      obtain ⟨j, rfl⟩ := Int.eq_ofNat_of_zero_le h1
      have hc := HG.out j (by omega)
      go_wp2_with fail
      go_ret
      exact ⟨by simp [hd2], rfl⟩
    · have hd2 : decide (k < 10) = false := by simpa using h2
      go_wp2_with fail
      go_ret
      exact ⟨by simp [hd2], rfl⟩
  · have hd1 : decide (0 ≤ k) = false := by simpa using h1
    go_wp2_with fail
    go_ret
    exact ⟨rfl, rfl⟩
def small (u : Int) : Int := if 9007199254740991 < u then -1 else u
set_option maxHeartbeats 800000 in
theorem item_small (w : World) (u : Int) (h0 : 0 ≤ u) :
    Calls Tryd.prog 102 #[.int .u64 u] w fun en w' => en = .returned (.int .i64 (small u)) ∧ w = w' := by
  go_enter Tryd.func102, Tryd.ntmps102
  by_cases h : 9007199254740991 < u
  · have hd : decide (9007199254740991 < u) = true := by simpa using h
    go_wp2_with fail
    go_ret
    exact ⟨by unfold small; rw [if_pos h]; rfl, rfl⟩
  · have hd : decide (9007199254740991 < u) = false := by simpa using h
    have hw := wrap64_in (n := u) (by omega) (by omega)
    go_wp2_with fail
    go_ret
    exact ⟨by unfold small; rw [if_neg (by omega)]; rfl, rfl⟩
end Go.Proofs.YtmeblifbkhpdnaaDoor.K
namespace Go.Proofs
open Go.Shelf
def Tryd.laysGw17_ren : Go.Shelf.Ren := ⟨fun | 17 => 112 | 15 => 119 | 20 => 120 | n => n, fun | 9 => 9 | 23 => 126 | 4 => 4 | 3 => 3 | 0 => 0 | 21 => 21 | n => n, fun | n => n⟩
theorem Tryd.laysGw17 : Go.Proofs.LaysGw.n17 Tryd.prog Tryd.laysGw17_ren := {
  mixed := by kernel_rfl
  f15 := Tryd.func119.trans (congrArg some (by kernel_rfl))
  f17 := Tryd.func112.trans (congrArg some (by kernel_rfl))
  f20 := Tryd.func120.trans (congrArg some (by kernel_rfl))
  t0 := Tryd.underlying0
  a0 := Tryd.isAgg0
  z0 := Tryd.sizeOf0
  v0 := Tryd.zeroValue0
  i0 := by kernel_rfl
  t3 := Tryd.underlying3
  a3 := Tryd.isAgg3
  z3 := Tryd.sizeOf3
  v3 := Tryd.zeroValue3
  i3 := by kernel_rfl
  t4 := Tryd.underlying4
  a4 := Tryd.isAgg4
  z4 := Tryd.sizeOf4
  v4 := Tryd.zeroValue4
  i4 := by kernel_rfl
  t9 := Tryd.underlying9
  a9 := Tryd.isAgg9
  z9 := Tryd.sizeOf9
  v9 := Tryd.zeroValue9
  i9 := by kernel_rfl
  t21 := Tryd.underlying21
  a21 := Tryd.isAgg21
  z21 := Tryd.sizeOf21
  v21 := Tryd.zeroValue21
  i21 := by kernel_rfl
  t23 := Tryd.underlying126
  a23 := Tryd.isAgg126
  z23 := Tryd.sizeOf126
  v23 := Tryd.zeroValue126
  i23 := by kernel_rfl }
open Go.RowKit Go.Lib in
theorem Tryd.strings_ContainsFunc_runes (g : Nat) (lb : Array Value) (eg : ∀ args w, (callFunc g args).run Tryd.prog w = .ok (.enter g args) w) (p : Nat → Bool) (s : ByteArray) (w : World) (hp : PredAtRunes Tryd.prog g lb p w) :
    Calls Tryd.prog 112 #[.string s, .func (.func g) #[] lb] w fun e w' => e = .returned (.bool (decide (0 ≤ Lib.idxFunc p true s))) ∧ Below w.heap.size w w' := Any.strings_ContainsFunc_runes Tryd.laysGw17 g lb eg p s w hp
end Go.Proofs
namespace Go.Proofs.YtmeblifbkhpdnaaDoor.K
set_option linter.unusedVariables false
set_option linter.unusedSimpArgs false
open Go.RowKit Go.Proofs.YtmeblifbkhpdnaaDoorW.PrintWords Go.Proofs.YtmeblifbkhpdnaaDoorW.PrintLast Go.Proofs.YtmeblifbkhpdnaaDoorW.PrintMore
def badCh (c : Nat) : Bool := !((decide (97 ≤ c) && decide (c ≤ 122)) || (decide (48 ≤ c) && decide (c ≤ 57)))
def nameOk (s : ByteArray) : Bool := !(decide (s.toList = [])) && (decide (s.size ≤ 8) && !(decide (0 ≤ Lib.idxFunc badCh true s)))
set_option maxHeartbeats 800000 in
theorem item_Name_1 (W : World) (c : Nat) :
    Calls Tryd.prog 111 #[.int .i32 (c : Int)] W fun en w' => en = .returned (.bool (badCh c)) ∧ W = w' := by
  have hB : badCh c = !((decide (97 ≤ (c : Int)) && decide ((c : Int) ≤ 122)) || (decide (48 ≤ (c : Int)) && decide ((c : Int) ≤ 57))) := by
    unfold badCh
    rw [show decide (97 ≤ c) = decide (97 ≤ (c : Int)) by congr 1; simp; omega, show decide (c ≤ 122) = decide ((c : Int) ≤ 122) by congr 1; simp; omega, show decide (48 ≤ c) = decide (48 ≤ (c : Int)) by congr 1; simp; omega, show decide (c ≤ 57) = decide ((c : Int) ≤ 57) by congr 1; simp; omega]
  have HB := Aside0.mk hB
  clear hB
  generalize hz : (c : Int) = z at *
  clear hz
  go_enter Tryd.func111, Tryd.ntmps111
  cases h1 : decide (97 ≤ z) <;> cases h2 : decide (z ≤ 122) <;> cases h3 : decide (48 ≤ z) <;> cases h4 : decide (z ≤ 57) <;>
  · go_wp2_with fail
    go_ret
    exact ⟨by rw [HB.out]; simp [h1, h2, h3, h4], rfl⟩
theorem item_Name_pred (w : World) : PredAtRunes Tryd.prog 111 #[] badCh w := fun W x _ _ =>
  (item_Name_1 W x).mono fun _ _ h => ⟨h.1, 0, h.2.symm⟩
theorem item_Name_enter (args : Array Value) (w : World) : (callFunc 111 args).run Tryd.prog w = .ok (.enter 111 args) w := Go.Proofs.enters_of Tryd.func111 (by kernel_rfl) rfl args w
set_option maxHeartbeats 800000 in
theorem item_Name (w : World) (s : ByteArray) :
    Calls Tryd.prog 98 #[.string s] w fun en w' => en = .returned (.bool (nameOk s)) ∧ Below w.heap.size w w' := by
  have hc := Tryd.strings_ContainsFunc_runes 111 #[] item_Name_enter badCh s w (item_Name_pred w)
  unfold nameOk
  go_enter Tryd.func98, Tryd.ntmps98
  by_cases h1 : s.toList = []
  · go_wp2_with fail
    go_ret
    exact ⟨by simp [h1], Below.refl _ _⟩
  · by_cases h2 : (s.size : Int) ≤ 8
    · go_wp2_with fail
      refine hc.mono ?_
      rintro en w1 ⟨rfl, hb⟩
      go_wp2_with fail
      go_ret
      exact ⟨by have h2' : s.size ≤ 8 := by omega
                simp [h1, h2'], hb⟩
    · go_wp2_with fail
      go_ret
      exact ⟨by simp [h1]; omega, Below.refl _ _⟩
end Go.Proofs.YtmeblifbkhpdnaaDoor.K
namespace Go.Proofs.YtmeblifbkhpdnaaDoor.K
set_option linter.unusedVariables false
set_option linter.unusedSimpArgs false
open Go.RowKit Go.Proofs.YtmeblifbkhpdnaaDoorW.PrintWords Go.Proofs.YtmeblifbkhpdnaaDoorW.PrintLast Go.Proofs.YtmeblifbkhpdnaaDoorW.PrintMore
abbrev Line := S118
def kLine : Kd Line := k118
def keyL (s : ByteArray) : Lit := .string s.data.toList
def Had (w : World) (b : Nat) (ns : List ByteArray) : Prop :=
  ∃ l : List (Lit × DataW Unit), w.ownsMap Tryd.prog 9 (plainElem Tryd.prog 3) b ns.length (.map l) ∧ (∀ s, (∃ d, (keyL s, d) ∈ l) ↔ s ∈ ns) ∧ l.length ≤ ns.length ∧ (l.length = ns.length ↔ ns.Nodup)
theorem Had.made (w : World) : Had (w.alloc (.map #[] 0)) w.heap.size [] :=
  ⟨[], World.ownsMap_made w _ _ _, by simp, by simp, by simp⟩
theorem Had.below {w w' : World} {b B : Nat} {ns : List ByteArray} (h : Had w b ns) (hb : Below B w w') (hB : b < B) : Had w' b ns := by
  obtain ⟨l, ⟨es, clock, h1, h2⟩, h3⟩ := h
  exact ⟨l, ⟨es, clock, (hb.block b hB).trans h1, h2⟩, h3⟩
theorem Had.len {w : World} {b : Nat} {ns : List ByteArray} (h : Had w b ns) : ∃ n : Nat, (Builtin.len_ #[128] 3 #[.map (some b)]).run Tryd.prog w = .ok (.int .i64 (n : Int)) w ∧ (n = ns.length ↔ ns.Nodup) := by
  obtain ⟨l, hown, _, h4, h5⟩ := h
  exact ⟨l.length, hown.len Tryd.underlying128 3, h5⟩
theorem Had.put {w1 : World} {b k : Nat} {ns : List ByteArray} {ll : List (Lit × DataW Unit)} (s : ByteArray) (d : DataW Unit) (hk : ns.length = k) (h : (∀ t, (∃ e, (keyL t, e) ∈ ChangeMaps.putKey (keyL s) d ll) ↔ t ∈ ns ++ [s]) ∧ (ChangeMaps.putKey (keyL s) d ll).length ≤ (ns ++ [s]).length ∧ ((ChangeMaps.putKey (keyL s) d ll).length = (ns ++ [s]).length ↔ (ns ++ [s]).Nodup))
    (ho : w1.ownsMap Tryd.prog 9 (plainElem Tryd.prog 3) b (k + 1) ((DataW.map ll).put (keyL s) d)) : Had w1 b (ns ++ [s]) := by
  rw [DataW.put_eq] at ho
  exact ⟨_, by rw [List.length_append, hk]; exact ho, h.1, h.2.1, h.2.2⟩
theorem isKey_str (s : ByteArray) : WideAt.IsKeyLit (keyL s) := trivial
theorem keyL_inj {s t : ByteArray} (h : keyL s = keyL t) : s = t := by
  unfold keyL at h
  injection h with h
  cases s; cases t
  simpa [Array.toList_inj] using h
theorem had_put {l : List (Lit × DataW Unit)} {ns : List ByteArray} (s : ByteArray) (d : DataW Unit) (h1 : ∀ s, (∃ d, (keyL s, d) ∈ l) ↔ s ∈ ns) (h2 : l.length ≤ ns.length) (h3 : l.length = ns.length ↔ ns.Nodup) :
    (∀ t, (∃ e, (keyL t, e) ∈ ChangeMaps.putKey (keyL s) d l) ↔ t ∈ ns ++ [s]) ∧ (ChangeMaps.putKey (keyL s) d l).length ≤ (ns ++ [s]).length ∧ ((ChangeMaps.putKey (keyL s) d l).length = (ns ++ [s]).length ↔ (ns ++ [s]).Nodup) := by
  have hlen : (ChangeMaps.putKey (keyL s) d l).length = (l.filter (ChangeMaps.notKey (keyL s))).length + 1 := by unfold ChangeMaps.putKey; rw [length_insert]
  have hfl := List.length_filter_le (ChangeMaps.notKey (keyL s)) l
  refine ⟨fun t => ?_, by simp; omega, ?_⟩
  · constructor
    · rintro ⟨e, he⟩
      unfold ChangeMaps.putKey at he
      rcases ChangeMaps.mem_insert_iff.1 he with h | h
      · simp only [Prod.mk.injEq] at h
        simp [keyL_inj h.1]
      · simp [(h1 t).1 ⟨e, (List.mem_filter.1 h).1⟩]
    · intro ht
      by_cases hts : t = s
      · subst hts
        exact ⟨d, ChangeMaps.mem_insert_iff.2 (Or.inl rfl)⟩
      · have : t ∈ ns := by simpa [hts] using ht
        obtain ⟨e, he⟩ := (h1 t).2 this
        exact ⟨e, ChangeMaps.mem_insert_iff.2 (Or.inr (List.mem_filter.2 ⟨he, (Maps.notKey_iff (isKey_str s)).2 (fun h => hts (keyL_inj h))⟩))⟩
  · rw [hlen]
    have hnd : (ns ++ [s]).Nodup ↔ ns.Nodup ∧ s ∉ ns := by
      rw [List.nodup_append]
      constructor
      · rintro ⟨a, _, c⟩
        exact ⟨a, fun hs => c s hs s (by simp) rfl⟩
      · rintro ⟨a, b⟩
        exact ⟨a, by simp, fun x hx y hy e => by simp at hy; subst hy; subst e; exact b hx⟩
    rw [hnd, ← h3]
    by_cases hs : s ∈ ns
    · obtain ⟨e, he⟩ := (h1 s).2 hs
      have : (l.filter (ChangeMaps.notKey (keyL s))).length < l.length := by
        rcases Nat.lt_or_ge (l.filter (ChangeMaps.notKey (keyL s))).length l.length with h | h
        · exact h
        · have e2 : l.filter (ChangeMaps.notKey (keyL s)) = l := List.filter_sublist.eq_of_length_le h
          rw [← e2] at he
          exact absurd rfl ((Maps.notKey_iff (isKey_str s)).1 (List.mem_filter.1 he).2)
      simp [hs]
      omega
    · have e2 : l.filter (ChangeMaps.notKey (keyL s)) = l := by
        rw [List.filter_eq_self]
        rintro ⟨k, e⟩ hx
        rw [Maps.notKey_iff (isKey_str s)]
        rintro rfl
        exact hs ((h1 s).1 ⟨e, hx⟩)
      rw [e2]
      simp [hs]
def lineOk (x : Line) : Bool := nameOk x.f0 && qty x.f1
def linesOk (l : List Line) : Bool := l.all lineOk && (decide (0 < l.length) && (decide (l.length ≤ 4) && decide (l.map (·.f0)).Nodup))
theorem take_snoc {α : Type} (l : List α) (k : Nat) (h : k < l.length) : l.take (k + 1) = l.take k ++ [l[k]] := by
  rw [List.take_succ_eq_append_getElem h]
theorem rd_T_at (l : List Line) (k : Nat) (h : k < l.length) : rd_T118 l (k : Int) = l[k] := by
  simp [rd_T118, List.getElem?_eq_getElem h, List.getD_eq_getElem?_getD]
theorem linesOk_bad (l : List Line) (k : Nat) (h : k < l.length) (hb : lineOk l[k] = false) : linesOk l = false := by
  unfold linesOk
  have : l.all lineOk = false := by
    rw [List.all_eq_false]
    exact ⟨l[k], List.getElem_mem h, by simp [hb]⟩
  rw [this]
  rfl
set_option maxRecDepth 20000 in
set_option maxHeartbeats 1600000 in
theorem item_lines (w : World) (A : Option Addr) (c : Nat) (l : List Line) (hA : kLine.C w A l.length l) (hc : l.length ≤ c) :
    Calls Tryd.prog 99 #[.slice A l.length c] w fun en w' => en = .returned (.bool (linesOk l)) ∧ Below w.heap.size w w' := by
  have hlm : l.length ≤ maxLen := hA.2.1
  have HLM := Aside0.mk hlm
  have HA := Aside0.mk hA
  clear hA hlm
  go_enter Tryd.func99, Tryd.ntmps99
  go_wp2_with fail
  rw [run_makeMap]
  go_wp2_with fail
  go_loopw [9] (fun v wr => ∃ k : Nat, k ≤ l.length ∧ v = .int .i64 k ∧ Aside0 ((l.take k).all lineOk = true) ∧ Aside0 (Had wr w.heap.size ((l.take k).map (·.f0))) ∧ Aside0 (Below w.heap.size w wr)) (fun v _ => l.length - (intOf v).toNat)
  case atStart => exact ⟨0, by omega, rfl, ⟨rfl⟩, ⟨by simpa using Had.made w⟩, ⟨below_alloc (Below.refl _ _) _⟩⟩
  case round =>
    obtain ⟨k, hk, rfl, HO, HH, HB⟩ := hrel
    by_cases hlt : k < l.length
    · have hb : decide ((k : Int) < (l.length : Int)) = true := by simp; omega
      obtain ⟨ad, e1, hc0, hc1⟩ := at_T118 HA.out (k : Int) (by omega) (by omega)
      cases e1
      rw [rd_T_at l k hlt] at hc0 hc1
      replace hc0 := (HB.out.cell (cell_blk hc0)).trans hc0
      replace hc1 := (HB.out.cell (cell_blk hc1)).trans hc1
      rw [Int.toNat_natCast] at hc0 hc1
      have HT := Aside0.mk (take_snoc l k hlt)
      have HBAD := Aside0.mk (linesOk_bad l k hlt)
      generalize l[k] = x at *
      have hlo : lineOk x = (nameOk x.f0 && qty x.f1) := rfl
      have HLO := Aside0.mk hlo
      clear hlo
      have hsz := Aside0.mk HB.out.size
      go_wp2_with fail
      refine (item_Name _ x.f0).mono ?_
      rintro en w1 ⟨rfl, hb1⟩
      have hs0 : w1.cell? ⟨wr.heap.size, 0, none⟩ = some (.string x.f0) := (hb1.cell (p := ⟨wr.heap.size, 0, none⟩) (by simp)).trans (by simp)
      have hs1 : w1.cell? ⟨wr.heap.size, 1, none⟩ = some (.int .i64 x.f1) := (hb1.cell (p := ⟨wr.heap.size, 1, none⟩) (by simp)).trans (by simp)
      have hb2 : Below wr.heap.size wr w1 := (below_alloc (Below.refl _ _) _).trans (hb1.mono (by simp))
      have HB2 := Aside0.mk hb2
      clear hb1 hb2
      cases hn : nameOk x.f0
      · go_wp2_with fail
        go_ret
        exact ⟨by rw [HBAD.out (by rw [HLO.out, hn]; rfl)]; rfl, HB.out.trans (HB2.out.mono hsz.out)⟩
      · go_wp2_with fail
        refine (item_quantity _ x.f1).mono ?_
        rintro en w2 ⟨rfl, rfl⟩
        cases hq : qty x.f1
        · go_wp2_with fail
          go_ret
          exact ⟨by rw [HBAD.out (by rw [HLO.out, hn, hq]; rfl)]; rfl, HB.out.trans (HB2.out.mono hsz.out)⟩
        · have hsz8 : x.f0.size ≤ maxLen := by
            have : x.f0.size ≤ 8 := by
              unfold nameOk at hn
              simp at hn
              exact hn.2.1
            unfold maxLen
            omega
          have hkm : k < maxLen := by have := HLM.out; omega
          have hnl : ((l.take k).map (·.f0)).length = k := by simp; omega
          obtain ⟨ll, hown, hk1, hk2, hk3⟩ := HH.out.below HB2.out (by have := HB.out.size; have := World.ownsMap.lt HH.out.choose_spec.1; omega)
          rw [hnl] at hown
          have HP := Aside0.mk (had_put x.f0 (.lit (.int .i64 1)) hk1 hk2 hk3)
          have hkey := WideMaps.keyOf_string_mk (s := x.f0) Tryd.underlying9 hsz8
          have hval := plainElem_int (H := Unit) (P := Tryd.prog) Tryd.underlying3 (a := 1) (q := .i64) (by decide)
          clear hk1 hk2 hk3
          obtain ⟨w3, hrun, hown3, hgrow⟩ := World.ownsMap.update hown (Maps.string_keyed Tryd.underlying9) Tryd.underlying128 hkm hkey hval
          have HW := Aside0.mk hown3
          have HG := Aside0.mk hgrow
          clear hown3 hgrow hval hkey hown hkm
          go_wp2_with fail
          have hwk := wrap_next l.length k hlt HLM.out
          go_roundw
          case rel =>
            refine ⟨k + 1, by omega, by rw [hwk], ⟨?_⟩, ⟨?_⟩, ⟨?_⟩⟩
            · rw [HT.out, List.all_append, HO.out]
              simp [HLO.out, hn, hq]
            · rw [HT.out, List.map_append]
              exact Had.put x.f0 _ hnl HP.out HW.out
            · exact (HB.out.trans (HB2.out.mono hsz.out)).grown HG.out (by have := HB2.out.size; have := hsz.out; omega) (by intro k hk; cases hk; exact Nat.le_refl _)
          case measure => exact meas_step l.length k hlt hwk
    · have hb : decide ((k : Int) < (l.length : Int)) = false := by simp; omega
      obtain rfl : k = l.length := by omega
      obtain ⟨n, hm1, hm3⟩ := HH.out.len
      rw [List.length_map, List.take_length] at hm3
      have HM := Aside0.mk hm3
      have hall := HO.out
      rw [List.take_length] at hall
      have HAL := Aside0.mk hall
      clear hm3 hall
      by_cases h0 : 0 < l.length
      · have hd0 : decide ((0 : Int) < (l.length : Int)) = true := by simp; omega
        by_cases h4 : l.length ≤ 4
        · have hd4 : decide ((l.length : Int) ≤ 4) = true := by simp; omega
          go_wp2_with fail
          go_ret
          refine ⟨?_, HB.out⟩
          unfold linesOk
          rw [HAL.out]
          have : (decide (l.map (·.f0)).Nodup) = ((n : Int) == (l.length : Int)) := by
            rw [Bool.eq_iff_iff]
            simp only [decide_eq_true_eq, beq_iff_eq, ← HM.out]
            omega
          rw [this]
          simp [h4, h0]
        · have hd4 : decide ((l.length : Int) ≤ 4) = false := by simp; omega
          go_wp2_with fail
          go_ret
          exact ⟨by unfold linesOk; simp [h4], HB.out⟩
      · have hd0 : decide ((0 : Int) < (l.length : Int)) = false := decide_eq_false (by omega)
        go_wp2_with fail
        go_ret
        exact ⟨by unfold linesOk; simp [h0], HB.out⟩
end Go.Proofs.YtmeblifbkhpdnaaDoor.K
namespace Go.Proofs.YtmeblifbkhpdnaaDoor.K
open Go
section
variable {P : Program} {md : Region.Mode} {ops : Array Oper} {Q : Exit → Act → World → Prop} {S : World → Prop}
theorem takeH {i : Nat} (N : Option Tmp) {oi : Oper} {v : Value} {fuel : Nat} {listed : Array Bool} {a : Act} {w : World} (hi : ops[i]? = some oi) (hN : oi.dst = N)
    (hs : Region.noSelect ops = true) (hf : Region.free md ops listed i = true) (hr : (Region.ready md ops listed).contains i = true)
    (hQ : ∀ c a w, Q (.panic c) (a.put N v) w → Q (.panic c) a w) (hy : YieldsIf P ops S oi v a) (hS : S w)
    (h : wpAnyH P md ops Q S fuel (listed.setIfInBounds i true) (a.put N v) w) : wpAnyH P md ops Q S (fuel + 1) listed a w := by
  subst hN
  exact wpAnyH_take hi hs hf hr hQ hy hS h
theorem skipH {i : Nat} (N : Option Tmp) {oi : Oper} {fuel : Nat} {listed : Array Bool} {a : Act} {w : World} (hi : ops[i]? = some oi) (hN : oi.dst = N)
    (hs : Region.noSelect ops = true) (hf : Region.free md ops listed i = true) (hr : (Region.ready md ops listed).contains i = true)
    (hQ : ∀ c a w, Q (.panic c) (a.put N undef) w → Q (.panic c) a w) (hw : Region.wanted oi (yielded ops a.tmps) = false) (hS : S w)
    (h : wpAnyH P md ops Q S fuel (listed.setIfInBounds i true) (a.put N undef) w) : wpAnyH P md ops Q S (fuel + 1) listed a w :=
  takeH N hi hN hs hf hr hQ (Or.inr ⟨hw, rfl⟩) hS h
end
end Go.Proofs.YtmeblifbkhpdnaaDoor.K
namespace Go.Proofs.YtmeblifbkhpdnaaDoor.K
set_option linter.unusedVariables false
set_option linter.unusedSimpArgs false
open Go.RowKit Go.Proofs.YtmeblifbkhpdnaaDoorW.PrintWords Go.Proofs.YtmeblifbkhpdnaaDoorW.PrintLast Go.Proofs.YtmeblifbkhpdnaaDoorW.PrintMore
abbrev Opn := S36
def may (k what : Int) (a b : Bool) : Bool := (iHas k what && a) || (!iHas k what && b)
set_option maxHeartbeats 800000 in
theorem item_Check_1 (w : World) (b : Nat) (k what : Int) (x y : Bool) (hG : GItem w) (hc : w.cell? ⟨b, 0, none⟩ = some (.int .i64 k)) :
    Calls Tryd.prog 95 #[.int .i64 what, .bool x, .bool y, .pointer (some ⟨b, 0, none⟩)] w fun en w' => en = .returned (.bool (may k what x y)) ∧ w = w' := by
  have HG := Aside0.mk hG
  clear hG
  unfold may
  go_enter Tryd.func95, Tryd.ntmps95
  go_wp2_with fail
  refine (item_has _ k what HG.out).mono ?_
  rintro en w1 ⟨rfl, rfl⟩
  cases h : iHas k what
  · go_wp2_with fail
    refine (item_has _ k what HG.out).mono ?_
    rintro en w1 ⟨rfl, rfl⟩
    go_wp2_with fail
    go_ret
    exact ⟨by simp [h], rfl⟩
  · cases x
    · go_wp2_with fail
      refine (item_has _ k what HG.out).mono ?_
      rintro en w1 ⟨rfl, rfl⟩
      go_wp2_with fail
      go_ret
      exact ⟨by simp [h], rfl⟩
    · go_wp2_with fail
      go_ret
      exact ⟨by simp [h], rfl⟩
def opN (o : Opn) : Bool := qty o.f3 || (iHas o.f0 8 && qty (wrap64 (-o.f3)))
def opOk (o : Opn) : Bool :=
  within o.f0 1 9 && (may o.f0 1 (nameOk o.f1) o.f1.toList.isEmpty && (may o.f0 2 (qty o.f2) (o.f2 == 0) && (may o.f0 4 (opN o) (o.f3 == 0) && may o.f0 16 (linesOk o.f4) ((o.f4.length : Int) == 0))))
def opE (o : Opn) : Int := if opOk o then 0 else 2
abbrev OpS (w0 : World) (b : Nat) (k : Int) (s : ByteArray) (r n : Int) (v : Value) (W : World) : Prop :=
  W.cell? ⟨b, 0, none⟩ = some (.int .i64 k) ∧ W.cell? ⟨b, 1, none⟩ = some (.string s) ∧ W.cell? ⟨b, 2, none⟩ = some (.int .i64 r) ∧ W.cell? ⟨b, 3, none⟩ = some (.int .i64 n) ∧ W.cell? ⟨b, 4, none⟩ = some v ∧ Aside0 (Below b w0 W)
theorem OpS.next {w0 W W' : World} {b : Nat} {k : Int} {s : ByteArray} {r n : Int} {v : Value} (h : OpS w0 b k s r n v W) (hb : Below W.heap.size W W') : OpS w0 b k s r n v W' := by
  obtain ⟨h0, h1, h2, h3, h4, h5⟩ := h
  have hlt : b < W.heap.size := cell_blk h0
  exact ⟨(hb.cell (p := ⟨b, 0, none⟩) hlt).trans h0, (hb.cell (p := ⟨b, 1, none⟩) hlt).trans h1, (hb.cell (p := ⟨b, 2, none⟩) hlt).trans h2, (hb.cell (p := ⟨b, 3, none⟩) hlt).trans h3, (hb.cell (p := ⟨b, 4, none⟩) hlt).trans h4, ⟨h5.out.trans (hb.mono (by omega))⟩⟩
theorem OpS.low {w0 W : World} {b : Nat} {k : Int} {s : ByteArray} {r n : Int} {v : Value} (h : OpS w0 b k s r n v W) : Below b w0 W := h.2.2.2.2.2.out
theorem OpS.drew {w0 W : World} {b : Nat} {k : Int} {s : ByteArray} {r n : Int} {v : Value} (h : OpS w0 b k s r n v W) : OpS w0 b k s r n v W.drew := h.next (Below.refl _ _ |>.drew)
theorem OpS.drewN {w0 W : World} {b : Nat} {k : Int} {s : ByteArray} {r n : Int} {v : Value} (h : OpS w0 b k s r n v W) (q : Nat) : OpS w0 b k s r n v (W.drewN q) := h.next ⟨rfl, rfl, rfl, Nat.le_refl _, fun _ _ => rfl⟩
theorem OpS.next' {w0 W W' : World} {b : Nat} {k : Int} {s : ByteArray} {r n : Int} {v : Value} (hb : Below W.heap.size W W') (h : OpS w0 b k s r n v W) : OpS w0 b k s r n v W' := h.next hb
theorem OpS.made (w : World) (k : Int) (s : ByteArray) (r n : Int) (v : Value) (t : TypeId) : OpS w w.heap.size k s r n v (w.alloc (.cells #[.int .i64 k, .string s, .int .i64 r, .int .i64 n, v] t)) :=
  ⟨by simp, by simp, by simp, by simp, by simp, ⟨below_alloc (Below.refl _ _) _⟩⟩
def ok3 (k : Int) (s : ByteArray) (r : Int) : Bool := within k 1 9 && (may k 1 (nameOk s) s.toList.isEmpty && may k 2 (qty r) (r == 0))
set_option maxRecDepth 20000 in
set_option maxHeartbeats 8000000 in
theorem item_Check (w : World) (A : Option Addr) (c : Nat) (o : Opn) (hG : GItem w) (hA : kLine.C w A o.f4.length o.f4) (hc : o.f4.length ≤ c) :
    Calls Tryd.prog 81 #[.agg #[.int .i64 o.f0, .string o.f1, .int .i64 o.f2, .int .i64 o.f3, .slice A o.f4.length c]] w fun en w' => en = .returned (.int .i64 (opE o)) ∧ Below w.heap.size w w' := by
  have HG := Aside0.mk hG
  have HA := Aside0.mk hA
  have HC := Aside0.mk hc
  clear hG hA hc
  obtain ⟨k, s, r, n, l⟩ := o
  go_enter Tryd.func81, Tryd.ntmps81
  go_upto_region 2 with fail
  go_cut [4] (fun s4 wx => s4 = .bool (opN ⟨k, s, r, n, l⟩) ∧ OpS w w.heap.size k s r n (.slice A l.length c) wx)
  case first =>
    go_wp2_with fail
    refine (item_quantity _ n).mono ?_
    rintro en w1 ⟨rfl, rfl⟩
    cases h1 : qty n
    · go_wp2_with fail
      refine (item_has _ k 8 (HG.out.below (below_alloc (Below.refl _ _) _))).mono ?_
      rintro en w1 ⟨rfl, rfl⟩
      cases h2 : iHas k 8
      · go_wp2_with fail
        go_meet
        exact ⟨by simp [opN, h1, h2], OpS.made _ _ _ _ _ _ _⟩
      · go_wp2_with fail
        refine (item_quantity _ (wrap64 (-n))).mono ?_
        rintro en w1 ⟨rfl, rfl⟩
        go_wp2_with fail
        go_meet
        exact ⟨by simp [opN, h1, h2], OpS.made _ _ _ _ _ _ _⟩
    · go_wp2_with fail
      go_meet
      exact ⟨by simp [opN, h1], OpS.made _ _ _ _ _ _ _⟩
  case rest =>
    obtain ⟨rfl, hS⟩ := hcut
    generalize hN4 : opN ⟨k, s, r, n, l⟩ = N4 at *
    go_upto_region 3 with fail
    go_cut [5] (fun s5 wx => s5 = .bool (ok3 k s r) ∧ OpS w w.heap.size k s r n (.slice A l.length c) wx)
    case first =>
      have c1 := fun W => item_within W k 1 9
      have hG' := fun W (h : OpS w w.heap.size k s r n (.slice A l.length c) W) => HG.out.keep h.2.2.2.2.2.out HG.out.lt
      cases hA : within k 1 9
      · rw [hA] at c1
        have hS' := hS
        obtain ⟨hs0, hs1, hs2, hs3, hs4, _⟩ := hS'
        have HS := Aside0.mk hS
        clear hS
        go_quiet ((go_at_call 97; refine Calls.quiet_of_same ((c1 _).mono fun _ _ h => ⟨h.1, h.2.symm⟩)))
        go_wp2_with fail
        go_meet
        exact ⟨by unfold ok3; rw [hA]; rfl, HS.out.drewN _⟩
      · have c2 := fun W h => item_Check_1 W w.heap.size k 1 (nameOk s) s.toList.isEmpty (hG' W h) h.1
        have c3 := fun W h => item_Check_1 W w.heap.size k 2 (qty r) (r == 0) (hG' W h) h.1
        cases hM : may k 1 (nameOk s) s.toList.isEmpty
        · rw [hA] at c1
          rw [hM] at c2
          refine wp_region_held_drew (S := fun w' => OpS w w.heap.size k s r n (.slice A l.length c) w') (by kernel_rfl) hS.drew (fun hHeld => ?_)
          clear hG' hS
          refine takeH (i := 0) (some 21) (v := ?_) rfl rfl (by kernel_rfl) (by kernel_rfl) (by kernel_rfl) (fun _ _ _ h => h) (Or.inl ⟨by kernel_rfl, ?_⟩) (by assumption) ?_
          rotate_left
          · (rintro w' ⟨s0, s1, s2, s3, s4, s5⟩; go_simp; first | done | with_reducible rfl)
          simp only [Act.put, List.setIfInBounds_toArray, List.set_cons_zero, List.set_cons_succ]
          refine takeH (i := 1) (some 22) (v := ?_) rfl rfl (by kernel_rfl) (by kernel_rfl) (by kernel_rfl) (fun _ _ _ h => h) (Or.inl ⟨by kernel_rfl, ?_⟩) (by assumption) ?_
          rotate_left
          · (rintro w' ⟨s0, s1, s2, s3, s4, s5⟩; go_simp; first | done | with_reducible rfl)
          simp only [Act.put, List.setIfInBounds_toArray, List.set_cons_zero, List.set_cons_succ]
          refine wpAnyH_ready (rs := [2]) (by kernel_rfl) (by simp) ?_
          refine AllReadyH.cons rfl (fun K hK => ?_) AllReadyH.nil
          go_simp
          refine (c1 _).mono ?_; rintro e w' ⟨rfl, rfl⟩
          refine hK.out _ _ ?_ (fun hHeld => ?_)
          · first | assumption | (apply OpS.drew; assumption) | (apply OpS.next'; assumption; assumption)
          clear hK K
          try simp only [Act.put, List.setIfInBounds_toArray, List.set_cons_zero, List.set_cons_succ]
          refine takeH (i := 3) (some 24) (v := ?_) rfl rfl (by kernel_rfl) (by kernel_rfl) (by kernel_rfl) (fun _ _ _ h => h) (Or.inl ⟨by kernel_rfl, ?_⟩) (by assumption) ?_
          rotate_left
          · (rintro w' ⟨s0, s1, s2, s3, s4, s5⟩; go_simp; first | done | with_reducible rfl)
          simp only [Act.put, List.setIfInBounds_toArray, List.set_cons_zero, List.set_cons_succ]
          refine takeH (i := 4) (some 25) (v := ?_) rfl rfl (by kernel_rfl) (by kernel_rfl) (by kernel_rfl) (fun _ _ _ h => h) (Or.inl ⟨by kernel_rfl, ?_⟩) (by assumption) ?_
          rotate_left
          · (rintro w' ⟨s0, s1, s2, s3, s4, s5⟩; go_simp; first | done | with_reducible rfl)
          simp only [Act.put, List.setIfInBounds_toArray, List.set_cons_zero, List.set_cons_succ]
          refine takeH (i := 5) (some 26) (v := ?_) rfl rfl (by kernel_rfl) (by kernel_rfl) (by kernel_rfl) (fun _ _ _ h => h) (Or.inl ⟨by kernel_rfl, ?_⟩) (by assumption) ?_
          rotate_left
          · (rintro w' ⟨s0, s1, s2, s3, s4, s5⟩; go_simp; first | done | with_reducible rfl)
          simp only [Act.put, List.setIfInBounds_toArray, List.set_cons_zero, List.set_cons_succ]
          refine takeH (i := 6) (some 27) (v := ?_) rfl rfl (by kernel_rfl) (by kernel_rfl) (by kernel_rfl) (fun _ _ _ h => h) (Or.inl ⟨by kernel_rfl, ?_⟩) (by assumption) ?_
          rotate_left
          · (rintro w' ⟨s0, s1, s2, s3, s4, s5⟩; go_simp; first | done | with_reducible rfl)
          simp only [Act.put, List.setIfInBounds_toArray, List.set_cons_zero, List.set_cons_succ]
          refine takeH (i := 8) (some 29) (v := ?_) rfl rfl (by kernel_rfl) (by kernel_rfl) (by kernel_rfl) (fun _ _ _ h => h) (Or.inl ⟨by kernel_rfl, ?_⟩) (by assumption) ?_
          rotate_left
          · (rintro w' ⟨s0, s1, s2, s3, s4, s5⟩; go_simp; first | done | with_reducible rfl)
          simp only [Act.put, List.setIfInBounds_toArray, List.set_cons_zero, List.set_cons_succ]
          refine takeH (i := 9) (some 30) (v := ?_) rfl rfl (by kernel_rfl) (by kernel_rfl) (by kernel_rfl) (fun _ _ _ h => h) (Or.inl ⟨by kernel_rfl, ?_⟩) (by assumption) ?_
          rotate_left
          · (rintro w' ⟨s0, s1, s2, s3, s4, s5⟩; go_simp; first | done | with_reducible rfl)
          simp only [Act.put, List.setIfInBounds_toArray, List.set_cons_zero, List.set_cons_succ]
          refine takeH (i := 10) (some 31) (v := ?_) rfl rfl (by kernel_rfl) (by kernel_rfl) (by kernel_rfl) (fun _ _ _ h => h) (Or.inl ⟨by kernel_rfl, ?_⟩) (by assumption) ?_
          rotate_left
          · (rintro w' ⟨s0, s1, s2, s3, s4, s5⟩; go_simp; first | done | with_reducible rfl)
          simp only [Act.put, List.setIfInBounds_toArray, List.set_cons_zero, List.set_cons_succ]
          refine wpAnyH_ready (rs := [7]) (by kernel_rfl) (by simp) ?_
          refine AllReadyH.cons rfl (fun K hK => ?_) AllReadyH.nil
          go_simp
          refine (item_Name _ s).mono ?_; rintro e w' ⟨rfl, hb⟩
          refine hK.out _ _ ?_ (fun hHeld => ?_)
          · first | assumption | (apply OpS.drew; assumption) | (apply OpS.next'; assumption; assumption)
          clear hK K
          try simp only [Act.put, List.setIfInBounds_toArray, List.set_cons_zero, List.set_cons_succ]
          refine wpAnyH_ready (rs := [11]) (by kernel_rfl) (by simp) ?_
          refine AllReadyH.cons rfl (fun K hK => ?_) AllReadyH.nil
          go_simp
          refine (c2 _ ?_).mono ?_; assumption; rintro e w' ⟨rfl, rfl⟩
          refine hK.out _ _ ?_ (fun hHeld => ?_)
          · first | assumption | (apply OpS.drew; assumption) | (apply OpS.next'; assumption; assumption)
          clear hK K
          try simp only [Act.put, List.setIfInBounds_toArray, List.set_cons_zero, List.set_cons_succ]
          refine takeH (i := 12) (some 33) (v := ?_) rfl rfl (by kernel_rfl) (by kernel_rfl) (by kernel_rfl) (fun _ _ _ h => h) (Or.inl ⟨by kernel_rfl, ?_⟩) (by assumption) ?_
          rotate_left
          · (rintro w' ⟨s0, s1, s2, s3, s4, s5⟩; go_simp; first | done | with_reducible rfl)
          simp only [Act.put, List.setIfInBounds_toArray, List.set_cons_zero, List.set_cons_succ]
          refine takeH (i := 13) (some 34) (v := ?_) rfl rfl (by kernel_rfl) (by kernel_rfl) (by kernel_rfl) (fun _ _ _ h => h) (Or.inl ⟨by kernel_rfl, ?_⟩) (by assumption) ?_
          rotate_left
          · (rintro w' ⟨s0, s1, s2, s3, s4, s5⟩; go_simp; first | done | with_reducible rfl)
          simp only [Act.put, List.setIfInBounds_toArray, List.set_cons_zero, List.set_cons_succ]
          refine skipH (i := 14) (some 35) rfl rfl (by kernel_rfl) (by kernel_rfl) (by kernel_rfl) (fun _ _ _ h => h) (by kernel_rfl) (by assumption) ?_
          simp only [Act.put, List.setIfInBounds_toArray, List.set_cons_zero, List.set_cons_succ]
          refine skipH (i := 15) (some 36) rfl rfl (by kernel_rfl) (by kernel_rfl) (by kernel_rfl) (fun _ _ _ h => h) (by kernel_rfl) (by assumption) ?_
          simp only [Act.put, List.setIfInBounds_toArray, List.set_cons_zero, List.set_cons_succ]
          refine skipH (i := 16) (some 37) rfl rfl (by kernel_rfl) (by kernel_rfl) (by kernel_rfl) (fun _ _ _ h => h) (by kernel_rfl) (by assumption) ?_
          simp only [Act.put, List.setIfInBounds_toArray, List.set_cons_zero, List.set_cons_succ]
          refine skipH (i := 17) (some 38) rfl rfl (by kernel_rfl) (by kernel_rfl) (by kernel_rfl) (fun _ _ _ h => h) (by kernel_rfl) (by assumption) ?_
          simp only [Act.put, List.setIfInBounds_toArray, List.set_cons_zero, List.set_cons_succ]
          refine skipH (i := 18) (some 39) rfl rfl (by kernel_rfl) (by kernel_rfl) (by kernel_rfl) (fun _ _ _ h => h) (by kernel_rfl) (by assumption) ?_
          simp only [Act.put, List.setIfInBounds_toArray, List.set_cons_zero, List.set_cons_succ]
          refine skipH (i := 19) (some 40) rfl rfl (by kernel_rfl) (by kernel_rfl) (by kernel_rfl) (fun _ _ _ h => h) (by kernel_rfl) (by assumption) ?_
          simp only [Act.put, List.setIfInBounds_toArray, List.set_cons_zero, List.set_cons_succ]
          refine skipH (i := 20) (some 41) rfl rfl (by kernel_rfl) (by kernel_rfl) (by kernel_rfl) (fun _ _ _ h => h) (by kernel_rfl) (by assumption) ?_
          simp only [Act.put, List.setIfInBounds_toArray, List.set_cons_zero, List.set_cons_succ]
          refine skipH (i := 21) (some 42) rfl rfl (by kernel_rfl) (by kernel_rfl) (by kernel_rfl) (fun _ _ _ h => h) (by kernel_rfl) (by assumption) ?_
          simp only [Act.put, List.setIfInBounds_toArray, List.set_cons_zero, List.set_cons_succ]
          refine takeH (i := 22) (some 43) (v := ?_) rfl rfl (by kernel_rfl) (by kernel_rfl) (by kernel_rfl) (fun _ _ _ h => h) (Or.inl ⟨by kernel_rfl, ?_⟩) (by assumption) ?_
          rotate_left
          · (rintro w' ⟨s0, s1, s2, s3, s4, s5⟩; go_simp; first | done | with_reducible rfl)
          simp only [Act.put, List.setIfInBounds_toArray, List.set_cons_zero, List.set_cons_succ]
          refine takeH (i := 23) (some 5) (v := ?_) rfl rfl (by kernel_rfl) (by kernel_rfl) (by kernel_rfl) (fun _ _ _ h => h) (Or.inl ⟨by kernel_rfl, ?_⟩) (by assumption) ?_
          rotate_left
          · (rintro w' ⟨s0, s1, s2, s3, s4, s5⟩; go_simp; first | done | with_reducible rfl)
          simp only [Act.put, List.setIfInBounds_toArray, List.set_cons_zero, List.set_cons_succ]
          refine wpAnyH_done (by kernel_rfl) ?_ _
          go_wp2_with fail
          go_meet
          exact ⟨by unfold ok3; rw [hA, hM]; rfl, by assumption⟩
        · rw [hA] at c1
          rw [hM] at c2
          clear hG'
          go_region_held3 (fun w' => OpS w w.heap.size k s r n (.slice A l.length c) w') (first | assumption | (apply OpS.drew; assumption) | (apply OpS.next'; assumption; assumption))
            (first
              | (go_at_call 97; refine (c1 _).mono ?_; rintro e w' ⟨rfl, rfl⟩)
              | (go_at_call 96; refine (item_quantity _ r).mono ?_; rintro e w' ⟨rfl, rfl⟩)
              | (go_at_call 98; refine (item_Name _ s).mono ?_; rintro e w' ⟨rfl, hb⟩)
              | (go_at_call_of 95 (Value.int IntKind.i64 1); refine (c2 _ ?_).mono ?_; assumption; rintro e w' ⟨rfl, rfl⟩)
              | (go_at_call_of 95 (Value.int IntKind.i64 2); refine (c3 _ ?_).mono ?_; assumption; rintro e w' ⟨rfl, rfl⟩))
          all_goals (go_wp2_with fail; go_meet; exact ⟨by unfold ok3; rw [hA, hM]; rfl, by assumption⟩)
    case rest =>
      clear hS
      obtain ⟨rfl, hS⟩ := hcut
      have hOk : opOk ⟨k, s, r, n, l⟩ = (ok3 k s r && (may k 4 N4 (n == 0) && may k 16 (linesOk l) ((l.length : Int) == 0))) := by
        rw [← hN4]
        unfold opOk ok3
        simp only [Bool.and_assoc]
      clear hN4
      have HOk := Aside0.mk hOk
      have hG' := fun W (h : OpS w w.heap.size k s r n (.slice A l.length c) W) => HG.out.keep h.2.2.2.2.2.out HG.out.lt
      have c4 := fun W h => item_Check_1 W w.heap.size k 4 N4 (n == 0) (hG' W h) h.1
      have c5 := fun W h => item_Check_1 W w.heap.size k 16 (linesOk l) ((l.length : Int) == 0) (hG' W h) h.1
      have HL := fun W (h : OpS w w.heap.size k s r n (.slice A l.length c) W) => item_lines W A c l (Kd.C_below HA.out h.2.2.2.2.2.out) HC.out
      clear hOk hG'
      cases hB : ok3 k s r
      · have HS := Aside0.mk hS
        clear hS c4 c5 HL
        go_wp2_with fail
        go_quiet (fail)
        go_wp2_with fail
        go_ret
        exact ⟨by unfold opE; rw [HOk.out, hB]; rfl, (HS.out.drewN _).2.2.2.2.2.out⟩
      · cases hM : may k 4 N4 (n == 0)
        · rw [hM] at c4
          have HS := Aside0.mk hS
          obtain ⟨hs0, hs1, hs2, hs3, hs4, _⟩ := hS
          have C4 := Aside0.mk c4
          clear c4 c5 HL
          go_wp2_with fail
          go_quiet ((go_at_call 95; refine Calls.quiet_of_same ((C4.out _ (HS.out.drewN _)).mono fun _ _ h => ⟨h.1, h.2.symm⟩)))
          go_wp2_with fail
          go_ret
          exact ⟨by unfold opE; rw [HOk.out, hB, hM]; rfl, (HS.out.drewN _).2.2.2.2.2.out⟩
        · rw [hM] at c4
          go_wp2_with fail
          go_region_held3 (fun w' => OpS w w.heap.size k s r n (.slice A l.length c) w') (first | assumption | (apply OpS.drew; assumption) | (apply OpS.next'; assumption; assumption))
            (first
              | (go_at_call 99; refine (HL _ ?_).mono ?_; assumption; rintro e w' ⟨rfl, hb⟩)
              | (go_at_call_of 95 (Value.int IntKind.i64 4); refine (c4 _ ?_).mono ?_; assumption; rintro e w' ⟨rfl, rfl⟩)
              | (go_at_call_of 95 (Value.int IntKind.i64 16); refine (c5 _ ?_).mono ?_; assumption; rintro e w' ⟨rfl, rfl⟩))
          all_goals (
            have hE := HOk.out
            rw [hB, hM] at hE
            cases hF : may k 16 (linesOk l) ((l.length : Int) == 0)
            · rw [hF] at hE
              have HE := Aside0.mk hE
              clear hE c4 c5 HL
              go_wp2_with fail
              go_ret
              exact ⟨by unfold opE; rw [HE.out]; rfl, OpS.low (k := k) (s := s) (r := r) (n := n) (v := .slice A l.length c) (by assumption)⟩
            · rw [hF] at hE
              have HE := Aside0.mk hE
              clear hE c4 c5 HL
              go_wp2_with fail
              go_ret
              exact ⟨by unfold opE; rw [HE.out]; rfl, OpS.low (k := k) (s := s) (r := r) (n := n) (v := .slice A l.length c) (by assumption)⟩)
end Go.Proofs.YtmeblifbkhpdnaaDoor.K
namespace Go.Proofs.YtmeblifbkhpdnaaDoor.K
set_option linter.unusedVariables false
set_option linter.unusedSimpArgs false
open Go.RowKit Go.Proofs.YtmeblifbkhpdnaaDoorW.PrintWords Go.Proofs.YtmeblifbkhpdnaaDoorW.PrintLast Go.Proofs.YtmeblifbkhpdnaaDoorW.PrintMore
def vEnc (u : Nat) : List Int := if u < 128 then [(u : Int)] else ((u % 128 + 128 : Nat) : Int) :: vEnc (u / 128)
termination_by u
theorem vEnc_lo (u : Nat) (h : u < 128) : vEnc u = [(u : Int)] := by rw [vEnc, if_pos h]
theorem vEnc_hi (u : Nat) (h : ¬ u < 128) : vEnc u = ((u % 128 + 128 : Nat) : Int) :: vEnc (u / 128) := by rw [vEnc, if_neg h]
set_option maxRecDepth 100000 in
theorem or128 : ∀ x : Fin 256, bits .or .u8 (x.val : Int) 128 = ((x.val % 128 + 128 : Nat) : Int) := by decide
theorem or128' (u : Nat) : bits .or .u8 ((u : Int) % 256) 128 = ((u % 128 + 128 : Nat) : Int) := by
  have h := or128 ⟨u % 256, Nat.mod_lt _ (by omega)⟩
  simp only at h
  rw [show ((u : Int) % 256) = ((u % 256 : Nat) : Int) by omega, h]
  omega
theorem vr_j (m j u : Nat) (h : j = 0 ∨ 1 ≤ m) (h1 : m * 128 ^ j ≤ u) (h2 : u < 18446744073709551616) : j ≤ 9 := by
  rcases h with h | h
  · omega
  rcases Nat.lt_or_ge 9 j with hj | hj
  · have e1 : 128 ^ 10 ≤ 128 ^ j := Nat.pow_le_pow_right (by omega) hj
    have e2 : 128 ^ j ≤ m * 128 ^ j := Nat.le_mul_of_pos_left _ h
    have e3 : (128 : Nat) ^ 10 = 1180591620717411303424 := by decide
    omega
  · exact hj
theorem vr_next (m j u : Nat) (hm : ¬ m < 128) (h1 : m * 128 ^ j ≤ u) : m / 128 * 128 ^ (j + 1) ≤ u := by
  have e : m / 128 * 128 ^ (j + 1) = (m / 128 * 128) * 128 ^ j := by rw [Nat.pow_succ, Nat.mul_comm (128 ^ j) 128, Nat.mul_assoc]
  rw [e]
  exact Nat.le_trans (Nat.mul_le_mul_right _ (Nat.div_mul_le_self m 128)) h1
theorem meas_div (m : Nat) (h : ¬ m < 128) : (intOf (.int .u64 ((m : Int) / 128))).toNat < (intOf (.int .u64 (m : Int))).toNat := by
  simp only [intOf]
  omega
theorem vr_row (m : Nat) (ys zs : List Int) (h : ¬ m < 128) (he : ys ++ vEnc m = zs) : ys ++ [(m : Int) % 128 + 128] ++ vEnc (m / 128) = zs := by
  rw [← he, vEnc_hi m h, List.append_assoc]
  rfl
set_option maxRecDepth 20000 in
set_option maxHeartbeats 1600000 in
theorem bits_Varint (w : World) (A : Option Addr) (c : Nat) (l : List Int) (u : Nat) (hC : Kd.C (Kd.int .u8) w A l.length l) (hc : l.length ≤ c) (hl : l.length + 10 < 140737488355328) (hu : u < 18446744073709551616) :
    Calls Tryd.prog 34 #[.slice A l.length c, .int .u64 (u : Int)] w fun en w' => ∃ v, en = .returned v ∧ Kd.R (Kd.int .u8) 5 w' w.heap.size (fun _ => True) v (l ++ vEnc u) ∧ Below w.heap.size w w' := by
  have HC := Aside0.mk hC
  have HCC := Aside0.mk hc
  have HL := Aside0.mk hl
  have HF : Aside0 (clone.f l = some l) := ⟨by unfold clone.f; rw [if_pos (by omega)]⟩
  have HU := Aside0.mk hu
  clear hC hc hl hu
  go_enter Tryd.func34, Tryd.ntmps34
  go_wp2_with fail
  refine (clone.calls A c l l _ HC.out HCC.out HF.out).mono ?_
  rintro en w1 ⟨v, rfl, ho, hbb⟩
  have HO := Aside0.mk ho
  have HB := Aside0.mk hbb
  clear ho hbb
  go_wp2_with fail
  go_loopw [1, 5] (fun x v wr => ∃ (m j : Nat) (ys : List Int), x = .int .u64 (m : Int) ∧ Aside0 (m * 128 ^ j ≤ u ∧ ys.length = l.length + j ∧ (j = 0 ∨ 1 ≤ m)) ∧ Aside0 (ys ++ vEnc m = l ++ vEnc u) ∧ Aside0 (Kd.R (Kd.int .u8) 5 wr w.heap.size (fun _ => True) v ys) ∧ Aside0 (Below w.heap.size w wr)) (fun x _ _ => (intOf x).toNat)
  case atStart => exact ⟨u, 0, l, rfl, ⟨by rw [Nat.pow_zero]; omega, by omega, Or.inl rfl⟩, ⟨rfl⟩, HO, HB⟩
  case round =>
    obtain ⟨m, j, ys, rfl, HJ, HE, HO2, HB2⟩ := hrel
    by_cases hm : m < 128
    · have hb : decide ((128 : Int) ≤ (m : Int)) = false := by simp; omega
      have hlen : (ys.length + 1) * 1 ≤ 140737488355328 := by
        have h1 := vr_j m j u HJ.out.2.2 HJ.out.1 HU.out
        have h2 := HJ.out.2.1
        have h3 := HL.out
        omega
      have HLN := Aside0.mk hlen
      clear hlen
      go_wp2_with (first | ((with_reducible refine gate_builtin (b := .append) (xs := #[.tmp 18, .tmp 21]) rfl ?_); at_builtin; refine Kd.R_append (Kd.int .u8) (w0 := w) w.heap.size rfl (.tmp 18) (.tmp 21) 22 5 (.int .u8 0) 1 rfl Tryd.underlying22 infou8 rfl (by decide) (by omega) _ (ys) ((m : Int)) [.int .u8 ((m : Int))] (fun _ => True) (fun _ => False) rfl rfl ?aP (fun _ hk => hk.elim) ?aF ?aO ?aB ?aS ?aL ?_; (case aP => exact rfl); (case aB => exact (by repeat (first | (with_reducible first | exact HB2.out | apply below_alloc | apply pw_below_drewN | apply below_drew1) | exact HB2.out))); (case aF => exact (fun _ _ => trivial)); (case aO => exact (by (with_reducible repeat (first | apply Kd.R_alloc | apply Kd.R_drewN | apply Kd.R_drew)); exact HO2.out)); (case aS => exact (below_size (by repeat (first | (with_reducible first | exact HB2.out | apply below_alloc | apply pw_below_drewN | apply below_drew1) | exact HB2.out)))); (case aL => exact HLN.out); intro v7 w7 hv hw hg7 hat7; clear hg7 hat7))
      go_ret
      have he := HE.out
      rw [vEnc_lo m hm] at he
      rw [he] at hv
      exact ⟨_, rfl, hv, hw⟩
    · have hb : decide ((128 : Int) ≤ (m : Int)) = true := by simp; omega
      have hor := or128' m
      have hlen : (ys.length + 1) * 1 ≤ 140737488355328 := by
        have h1 := vr_j m j u HJ.out.2.2 HJ.out.1 HU.out
        have h2 := HJ.out.2.1
        have h3 := HL.out
        omega
      have HLN := Aside0.mk hlen
      have HM := Aside0.mk hm
      clear hlen
      go_wp2_with (first | ((with_reducible refine gate_builtin (b := .append) (xs := #[.tmp 12, .tmp 16]) rfl ?_); at_builtin; refine Kd.R_append (Kd.int .u8) (w0 := w) w.heap.size rfl (.tmp 12) (.tmp 16) 22 5 (.int .u8 0) 1 rfl Tryd.underlying22 infou8 rfl (by decide) (by omega) _ (ys) ((m : Int) % 128 + 128) [.int .u8 ((m : Int) % 128 + 128)] (fun _ => True) (fun _ => False) rfl rfl ?aP (fun _ hk => hk.elim) ?aF ?aO ?aB ?aS ?aL ?_; (case aP => exact rfl); (case aB => exact (by repeat (first | (with_reducible first | exact HB2.out | apply below_alloc | apply pw_below_drewN | apply below_drew1) | exact HB2.out))); (case aF => exact (fun _ _ => trivial)); (case aO => exact (by (with_reducible repeat (first | apply Kd.R_alloc | apply Kd.R_drewN | apply Kd.R_drew)); exact HO2.out)); (case aS => exact (below_size (by repeat (first | (with_reducible first | exact HB2.out | apply below_alloc | apply pw_below_drewN | apply below_drew1) | exact HB2.out)))); (case aL => exact HLN.out); intro v7 w7 hv hw hg7 hat7; clear hg7 hat7))
      have HV := Aside0.mk hv
      have HW := Aside0.mk hw
      clear hv hw
      go_roundw
      case rel => exact ⟨m / 128, j + 1, ys ++ [(m : Int) % 128 + 128], rfl, ⟨vr_next m j u HM.out HJ.out.1, by rw [List.length_append]; have h2 := HJ.out.2.1; simp only [List.length_cons, List.length_nil]; omega, Or.inr (by have h := HM.out; omega)⟩, ⟨vr_row m ys _ HM.out HE.out⟩, HV, HW⟩
      case measure => exact meas_div m HM.out
theorem wrap_u64_nat (n : Nat) (h : n < 18446744073709551616) : IntKind.u64.wrap (n : Int) = (n : Int) := wrap_u64 (n : Int) (by omega) (by omega)
theorem vEnc_len : ∀ (k u : Nat), u < 128 ^ (k + 1) → (vEnc u).length ≤ k + 1
  | 0, u, h => by rw [vEnc_lo u (by simpa using h)]; simp
  | k + 1, u, h => by
    by_cases hu : u < 128
    · rw [vEnc_lo u hu]; simp
    · rw [vEnc_hi u hu, List.length_cons]
      have := vEnc_len k (u / 128) (by rw [Nat.div_lt_iff_lt_mul (by omega)]; rw [Nat.pow_succ] at h; omega)
      omega
theorem vEnc_ten (u : Nat) (h : u < 18446744073709551616) : (vEnc u).length ≤ 10 := vEnc_len 9 u (by
  have : (128 : Nat) ^ (9 + 1) = 1180591620717411303424 := by decide
  omega)
set_option maxRecDepth 20000 in
set_option maxHeartbeats 1600000 in
theorem bits_Text (w : World) (A : Option Addr) (c : Nat) (l : List Int) (A2 : Option Addr) (c2 : Nat) (s : List Int) (hC : Kd.C (Kd.int .u8) w A l.length l) (hc : l.length ≤ c) (hC2 : Kd.C (Kd.int .u8) w A2 s.length s) (hc2 : s.length ≤ c2) (hl : l.length + s.length + 10 < 140737488355328) :
    Calls Tryd.prog 37 #[.slice A l.length c, .slice A2 s.length c2] w fun en w' => ∃ v, en = .returned v ∧ Kd.R (Kd.int .u8) 5 w' w.heap.size (fun _ => True) v (l ++ (vEnc s.length ++ s)) ∧ Below w.heap.size w w' := by
  have HC := Aside0.mk hC
  have HCC := Aside0.mk hc
  have HC2 := Aside0.mk hC2
  have HL := Aside0.mk hl
  have hwr := wrap_u64_nat s.length (by omega)
  clear hC hc hC2 hl hc2
  go_enter Tryd.func37, Tryd.ntmps37
  go_wp2_with fail
  refine (bits_Varint _ A c l s.length HC.out HCC.out (by have := HL.out; omega) (by have := HL.out; omega)).mono ?_
  rintro en w1 ⟨v, rfl, ho, hbb⟩
  have HO := Aside0.mk ho
  have HB := Aside0.mk hbb
  have HR := Aside0.mk (Kd.C_below HC2.out hbb)
  have hlen : ((l ++ vEnc s.length).length + s.length) * 1 ≤ 140737488355328 := by
    have h1 := vEnc_ten s.length (by have := HL.out; omega)
    have h2 := HL.out
    rw [List.length_append]
    omega
  have HLN := Aside0.mk hlen
  clear ho hbb hlen
  go_wp2_with (first | ((with_reducible refine gate_builtin (b := .append) (xs := #[.tmp 9, .tmp 10]) rfl ?_); at_builtin; refine Kd.R_append_rows (Kd.int .u8) (w0 := w) w.heap.size rfl (.tmp 9) (.tmp 10) 22 5 (.int .u8 0) 1 rfl Tryd.underlying22 infou8 rfl (by decide) (by omega) (v) (l ++ vEnc s.length) (s) _ _ _ (fun _ => True) (fun _ => False) rfl rfl ?aO ?aR (fun _ _ h => h) (fun _ h => h.elim) ?aF ?aB ?aS ?aL ?_; (case aR => repeat (first | exact HR.out | (with_reducible refine Kd.C_alloc ?_ _) | (with_reducible refine Kd.C_drewN ?_ _) | (with_reducible refine Kd.C_drew ?_))); (case aB => exact (by repeat (first | (with_reducible first | exact HB.out | apply below_alloc | apply pw_below_drewN | apply below_drew1) | exact HB.out))); (case aF => exact (fun _ _ => trivial)); (case aO => exact (by (with_reducible repeat (first | apply Kd.R_alloc | apply Kd.R_drewN | apply Kd.R_drew)); exact HO.out)); (case aS => exact (below_size (by repeat (first | (with_reducible first | exact HB.out | apply below_alloc | apply pw_below_drewN | apply below_drew1) | exact HB.out)))); (case aL => exact HLN.out); intro v7 w7 hv hw hg7 hat7; clear hg7 hat7))
  go_ret
  rw [List.append_assoc] at hv
  exact ⟨_, rfl, hv, hw⟩
set_option maxRecDepth 20000 in
set_option maxHeartbeats 1600000 in
theorem item_number (w : World) (A : Option Addr) (c : Nat) (l : List Int) (u : Nat) (hC : Kd.C (Kd.int .u8) w A l.length l) (hc : l.length ≤ c) (hl : l.length + 10 < 140737488355328) (hu : u < 9223372036854775808) :
    Calls Tryd.prog 92 #[.slice A l.length c, .int .i64 (u : Int)] w fun en w' => ∃ v, en = .returned v ∧ Kd.R (Kd.int .u8) 5 w' w.heap.size (fun _ => True) v (l ++ vEnc u) ∧ Below w.heap.size w w' := by
  have HH := Aside0.mk (bits_Varint w A c l u hC hc hl (by omega))
  have hwr := wrap_u64_nat u (by omega)
  clear hC hc hl hu
  go_enter Tryd.func92, Tryd.ntmps92
  go_wp2_with fail
  refine HH.out.mono ?_
  rintro en w1 ⟨v, rfl, ho, hbb⟩
  have HO := Aside0.mk ho
  have HB := Aside0.mk hbb
  clear ho hbb
  go_wp2_with fail
  go_ret
  exact ⟨_, rfl, HO.out, HB.out⟩
end Go.Proofs.YtmeblifbkhpdnaaDoor.K
namespace Go.Proofs.YtmeblifbkhpdnaaDoor.K
set_option linter.unusedVariables false
set_option linter.unusedSimpArgs false
open Go.RowKit Go.Proofs.YtmeblifbkhpdnaaDoorW.PrintWords Go.Proofs.YtmeblifbkhpdnaaDoorW.PrintLast Go.Proofs.YtmeblifbkhpdnaaDoorW.PrintMore
def sB (s : ByteArray) : List Int := s.data.toList.map fun b => (b.toNat : Int)
theorem sB_len (s : ByteArray) : (sB s).length = s.size := by
  unfold sB
  rw [List.length_map, Array.length_toList]
  rfl
theorem sB_bytes (s : ByteArray) : CrcMath.Bytes (sB s) := by
  intro c hc
  obtain ⟨b, _, rfl⟩ := List.mem_map.1 hc
  have := b.toNat_lt
  omega
theorem sB_C (w : World) (s : ByteArray) (hs : s.size ≤ 9223372036854775807) : Kd.C (Kd.int .u8) (Lib.bytesWorld w 5 s) (some ⟨w.heap.size, 0, none⟩) (sB s).length (sB s) := by
  refine Kd.C_of_reads (d := 0) (enc := fun x => Value.int .u8 x) (h1 := fun _ => rfl) ⟨rfl, by rw [sB_len]; exact hs, fun _ => ⟨_, rfl, fun j hj => ?_⟩⟩
  rw [sB_len] at hj
  have h := Lib.bytesWorld_cell w 5 s j hj
  rw [add_plain]
  refine h.trans ?_
  have hj3 : j < s.data.size := hj
  rw [show s.data.toList.getD j 0 = s.data[j] by simp [List.getD_eq_getElem?_getD, Array.getElem?_eq_getElem hj3]]
  simp [sB, List.getD_eq_getElem?_getD, Array.getElem?_eq_getElem hj3]
set_option maxRecDepth 20000 in
set_option maxHeartbeats 1600000 in
theorem item_text (w : World) (A : Option Addr) (c : Nat) (l : List Int) (s : ByteArray) (hC : Kd.C (Kd.int .u8) w A l.length l) (hc : l.length ≤ c) (hl : l.length + s.size + 10 < 140737488355328) :
    Calls Tryd.prog 91 #[.slice A l.length c, .string s] w fun en w' => ∃ v, en = .returned v ∧ Kd.R (Kd.int .u8) 5 w' w.heap.size (fun _ => True) v (l ++ (vEnc s.size ++ sB s)) ∧ Below w.heap.size w w' := by
  have hcv := Lib.run_convert_string_bytes (P := Tryd.prog) w 9 22 5 s Tryd.underlying9 Tryd.underlying22 Tryd.underlying5
  have HB := Aside0.mk (Joins.below_bytesWorld w.heap.size w 5 s (Nat.le_refl _))
  have HH := Aside0.mk (bits_Text (Lib.bytesWorld w 5 s) A c l (some ⟨w.heap.size, 0, none⟩) (grownCap w s.size 0 5) (sB s) (Kd.C_below hC HB.out) hc (sB_C w s (by omega)) (by rw [sB_len]; exact grownCap_ge _ _ _ _) (by rw [sB_len]; exact hl))
  rw [sB_len] at HH
  clear hC hc hl
  go_enter Tryd.func91, Tryd.ntmps91
  go_wp2_with fail
  refine HH.out.mono ?_
  rintro en w1 ⟨v, rfl, ho, hbb⟩
  have HO := Aside0.mk (Kd.R_lower ho HB.out.size)
  have HB2 := Aside0.mk (HB.out.trans (hbb.mono HB.out.size))
  clear ho hbb
  go_wp2_with fail
  go_ret
  exact ⟨_, rfl, HO.out, HB2.out⟩
def zig (n : Int) : Nat := if n < 0 then (2 * (-(n + 1)) + 1).toNat else (2 * n).toNat
theorem xor0_u64 (x : Int) (h0 : 0 ≤ x) (h1 : x < 18446744073709551616) : Go.bits .xor .u64 x 0 = x := by
  obtain ⟨x, rfl⟩ := Int.eq_ofNat_of_zero_le h0
  have hx : x < 2 ^ 64 := by omega
  show IntKind.u64.wrap (((BitVec.ofInt 64 (x : Int) ^^^ BitVec.ofInt 64 0).toNat : Nat) : Int) = _
  have e0 : BitVec.ofInt 64 0 = 0#64 := by decide
  rw [e0, BitVec.xor_zero, BitVec.ofInt_natCast, BitVec.toNat_ofNat, Nat.mod_eq_of_lt hx, wrap_u64 _ (by omega) (by omega)]
theorem xorm_u64 (x : Int) (h0 : 0 ≤ x) (h1 : x < 18446744073709551616) : Go.bits .xor .u64 x 18446744073709551615 = 18446744073709551615 - x := by
  obtain ⟨x, rfl⟩ := Int.eq_ofNat_of_zero_le h0
  have hx : x < 2 ^ 64 := by omega
  show IntKind.u64.wrap (((BitVec.ofInt 64 (x : Int) ^^^ BitVec.ofInt 64 18446744073709551615).toNat : Nat) : Int) = _
  have e0 : BitVec.ofInt 64 18446744073709551615 = BitVec.allOnes 64 := by decide
  rw [e0, BitVec.xor_allOnes, BitVec.ofInt_natCast, BitVec.toNat_not, BitVec.toNat_ofNat, Nat.mod_eq_of_lt hx, wrap_u64 _ (by omega) (by omega)]
  omega
theorem wrap_u64_def (n : Int) : IntKind.u64.wrap n = n % 18446744073709551616 := by
  rw [IntKind.wrap_u64]
theorem zig_law (n : Int) (h0 : -9223372036854775808 ≤ n) (h1 : n < 9223372036854775808) : Go.bits .xor .u64 (IntKind.u64.wrap (IntKind.u64.wrap n * 2)) (IntKind.u64.wrap (n / 9223372036854775808)) = (zig n : Int) := by
  unfold zig
  by_cases h : n < 0
  · rw [if_pos h]
    have e1 : IntKind.u64.wrap n = n + 18446744073709551616 := by rw [wrap_u64_def]; omega
    have e2 : IntKind.u64.wrap ((n + 18446744073709551616) * 2) = 2 * n + 18446744073709551616 := by rw [wrap_u64_def]; omega
    have e3 : n / 9223372036854775808 = -1 := by omega
    have e4 : IntKind.u64.wrap (-1) = 18446744073709551615 := by rw [wrap_u64_def]; decide
    rw [e1, e2, e3, e4, xorm_u64 _ (by omega) (by omega)]
    omega
  · rw [if_neg h]
    have e1 : IntKind.u64.wrap n = n := wrap_u64 n (by omega) (by omega)
    have e2 : IntKind.u64.wrap (n * 2) = n * 2 := wrap_u64 _ (by omega) (by omega)
    have e3 : n / 9223372036854775808 = 0 := by omega
    have e4 : IntKind.u64.wrap 0 = 0 := wrap_u64 _ (by omega) (by omega)
    rw [e1, e2, e3, e4, xor0_u64 _ (by omega) (by omega)]
    omega
set_option maxRecDepth 20000 in
set_option maxHeartbeats 1600000 in
theorem bits_Zig (w : World) (n : Int) (h0 : -9223372036854775808 ≤ n) (h1 : n < 9223372036854775808) :
    Calls Tryd.prog 109 #[.int .i64 n] w fun en w' => en = .returned (.int .u64 (zig n : Int)) ∧ w = w' := by
  have HH := Aside0.mk (zig_law n h0 h1)
  clear h0 h1
  go_enter Tryd.func109, Tryd.ntmps109
  go_wp2_with fail
  go_ret
  exact ⟨by rw [← HH.out]; rfl, rfl⟩
theorem zig_lt (n : Int) (h0 : -9223372036854775808 ≤ n) (h1 : n < 9223372036854775808) : zig n < 18446744073709551616 := by
  unfold zig
  split <;> omega
set_option maxRecDepth 20000 in
set_option maxHeartbeats 1600000 in
theorem bits_Int (w : World) (A : Option Addr) (c : Nat) (l : List Int) (n : Int) (hC : Kd.C (Kd.int .u8) w A l.length l) (hc : l.length ≤ c) (hl : l.length + 10 < 140737488355328) (h0 : -9223372036854775808 ≤ n) (h1 : n < 9223372036854775808) :
    Calls Tryd.prog 93 #[.slice A l.length c, .int .i64 n] w fun en w' => ∃ v, en = .returned v ∧ Kd.R (Kd.int .u8) 5 w' w.heap.size (fun _ => True) v (l ++ vEnc (zig n)) ∧ Below w.heap.size w w' := by
  have HH := Aside0.mk (bits_Varint w A c l (zig n) hC hc hl (zig_lt n h0 h1))
  have HZ := Aside0.mk (bits_Zig w n h0 h1)
  clear hC hc hl h0 h1
  go_enter Tryd.func93, Tryd.ntmps93
  go_wp2_with fail
  refine HZ.out.mono ?_
  rintro en w1 ⟨rfl, rfl⟩
  go_wp2_with fail
  refine HH.out.mono ?_
  rintro en w1 ⟨v, rfl, ho, hbb⟩
  have HO := Aside0.mk ho
  have HB := Aside0.mk hbb
  clear ho hbb
  go_wp2_with fail
  go_ret
  exact ⟨_, rfl, HO.out, HB.out⟩
end Go.Proofs.YtmeblifbkhpdnaaDoor.K
namespace Go.Proofs.YtmeblifbkhpdnaaDoor.K
set_option linter.unusedVariables false
set_option linter.unusedSimpArgs false
open Go.RowKit Go.Proofs.YtmeblifbkhpdnaaDoorW.PrintWords Go.Proofs.YtmeblifbkhpdnaaDoorW.PrintLast Go.Proofs.YtmeblifbkhpdnaaDoorW.PrintMore
def beB (K n : Nat) : List Int := (List.range K).map fun i => ((n / 256 ^ (K - 1 - i) % 256 : Nat) : Int)
theorem put_test (K n : Nat) (hK : K = 1 ∨ K = 2 ∨ K = 4) (hn : n < 256 ^ K) : ((n : Int) / 2 ^ min (8 * K - 1) 64 / 2 != 0) = false := by
  have h : (n : Int) / 2 ^ min (8 * K - 1) 64 / 2 = 0 := by
    rcases hK with rfl | rfl | rfl
    · have : n < 256 := by simpa using hn
      show (n : Int) / 128 / 2 = 0
      omega
    · have : n < 65536 := by simpa using hn
      show (n : Int) / 32768 / 2 = 0
      omega
    · have : n < 4294967296 := by simpa using hn
      show (n : Int) / 2147483648 / 2 = 0
      omega
  rw [h]
  rfl
theorem beB_lo (K n k : Nat) (h : k < K) : (List.range (k + 1)).map (fun i => ((n / 256 ^ (K - 1 - i) % 256 : Nat) : Int)) = (List.range k).map (fun i => ((n / 256 ^ (K - 1 - i) % 256 : Nat) : Int)) ++ [((n / 256 ^ (K - 1 - k) % 256 : Nat) : Int)] := by
  rw [List.range_succ, List.map_append]
  rfl
theorem put_shift (K n k : Nat) (hK : K = 1 ∨ K = 2 ∨ K = 4) (h : k < K) : (n : Int) / 2 ^ min (8 * K - 8 - 8 * k) 64 % 256 = ((n / 256 ^ (K - 1 - k) % 256 : Nat) : Int) := by
  have e : (2 : Int) ^ min (8 * K - 8 - 8 * k) 64 = ((256 ^ (K - 1 - k) : Nat) : Int) := by
    have h1 : min (8 * K - 8 - 8 * k) 64 = 8 * (K - 1 - k) := by omega
    rw [h1, Int.pow_mul]
    simp
  rw [e]
  omega
set_option maxRecDepth 20000 in
set_option maxHeartbeats 1600000 in
theorem bits_Put (K : Nat) (hK : K = 1 ∨ K = 2 ∨ K = 4) (w : World) (A : Option Addr) (c : Nat) (l : List Int) (n : Nat) (hC : Kd.C (Kd.int .u8) w A l.length l) (hc : l.length ≤ c) (hl : l.length + 10 < 140737488355328) (hn : n < 256 ^ K) (s : Int) (hs : s = ((8 * K : Nat) : Int)) :
    Calls Tryd.prog 38 #[.slice A l.length c, .int .i64 s, .int .u64 (n : Int)] w fun en w' => ∃ v, en = .returned (.tuple #[v, .int .i64 0]) ∧ Kd.R (Kd.int .u8) 5 w' w.heap.size (fun _ => True) v (l ++ beB K n) ∧ Below w.heap.size w w' := by
  have HC := Aside0.mk hC
  have HCC := Aside0.mk hc
  have HL := Aside0.mk hl
  have HF : Aside0 (clone.f l = some l) := ⟨by unfold clone.f; rw [if_pos (by omega)]⟩
  have HN := Aside0.mk hn
  have HK := Aside0.mk hK
  have HS := Aside0.mk hs
  have hdv : wrap64 (s.tdiv 8) = (K : Int) := by
    rw [hs, Int.tdiv_eq_ediv_of_nonneg (by omega), wrap64_in (by omega) (by omega)]
    omega
  have hs1 : wrap64 (s - 1) = ((8 * K - 1 : Nat) : Int) := by rw [hs, wrap64_in (by omega) (by omega)]; omega
  have hs8 : wrap64 (s - 8) = ((8 * K - 8 : Nat) : Int) := by rw [hs, wrap64_in (by omega) (by omega)]; omega
  have ht := put_test K n hK hn
  clear hC hc hl hs hn hK
  go_enter Tryd.func38, Tryd.ntmps38
  go_wp2_with fail
  rw [HS.out]
  refine (bits_sized K HK.out _).mono ?_
  rintro en w1 ⟨rfl, rfl⟩
  rw [← HS.out]
  go_wp2_with fail
  refine (clone.calls A c l l _ HC.out HCC.out HF.out).mono ?_
  rintro en w1 ⟨v, rfl, ho, hbb⟩
  have HO := Aside0.mk ho
  have HB := Aside0.mk hbb
  clear ho hbb ht
  go_wp2_with fail
  rw [hdv]
  go_loopw [8, 9, 25] (fun x y v wr => ∃ (k : Nat), v = .int .i64 (k : Int) ∧ k ≤ K ∧ Aside0 (Kd.R (Kd.int .u8) 5 wr w.heap.size (fun _ => True) x (l ++ (List.range k).map (fun i => ((n / 256 ^ (K - 1 - i) % 256 : Nat) : Int)))) ∧ Aside0 (Below w.heap.size w wr)) (fun _ _ v _ => K - (intOf v).toNat)
  case atStart => exact ⟨0, rfl, by omega, ⟨by simpa using HO.out⟩, HB⟩
  case round =>
    obtain ⟨k, rfl, hk, HO2, HB2⟩ := hrel
    by_cases hlt : k < K
    · have hb : decide ((k : Int) < (K : Int)) = true := by simp; omega
      have hw1 : wrap64 (8 * (k : Int)) = ((8 * k : Nat) : Int) := by have := HK.out; rw [wrap64_in (by omega) (by omega)]; omega
      have hw2 : wrap64 (((8 * K - 8 : Nat) : Int) - 8 * (k : Int)) = ((8 * K - 8 - 8 * k : Nat) : Int) := by have := HK.out; rw [wrap64_in (by omega) (by omega)]; omega
      have hsh := put_shift K n k HK.out hlt
      have HSN := Aside0.mk (beB_lo K n k hlt)
      have hwk := wrap_next K k hlt (by have := HK.out; unfold maxLen; omega)
      have HWK := Aside0.mk hwk
      have HLT := Aside0.mk hlt
      clear hwk
      have hlen : ((l ++ (List.range k).map (fun i => ((n / 256 ^ (K - 1 - i) % 256 : Nat) : Int))).length + 1) * 1 ≤ 140737488355328 := by
        have h1 := HL.out
        have h2 := HK.out
        rw [List.length_append, List.length_map, List.length_range]
        omega
      have HLN := Aside0.mk hlen
      clear hlen
      generalize hrow : (List.range k).map (fun i => ((n / 256 ^ (K - 1 - i) % 256 : Nat) : Int)) = row at *
      generalize hby : ((n / 256 ^ (K - 1 - k) % 256 : Nat) : Int) = by1 at *
      clear hrow hby
      go_wp2_with (first | ((with_reducible refine gate_builtin (b := .append) (xs := #[.tmp 28, .tmp 37]) rfl ?_); at_builtin; refine Kd.R_append (Kd.int .u8) (w0 := w) w.heap.size rfl (.tmp 28) (.tmp 37) 22 5 (.int .u8 0) 1 rfl Tryd.underlying22 infou8 rfl (by decide) (by omega) _ (l ++ row) (by1) [.int .u8 (by1)] (fun _ => True) (fun _ => False) rfl rfl ?aP (fun _ hk => hk.elim) ?aF ?aO ?aB ?aS ?aL ?_; (case aP => exact rfl); (case aB => exact (by repeat (first | (with_reducible first | exact HB2.out | apply below_alloc | apply pw_below_drewN | apply below_drew1) | exact HB2.out))); (case aF => exact (fun _ _ => trivial)); (case aO => exact (by (with_reducible repeat (first | apply Kd.R_alloc | apply Kd.R_drewN | apply Kd.R_drew)); exact HO2.out)); (case aS => exact (below_size (by repeat (first | (with_reducible first | exact HB2.out | apply below_alloc | apply pw_below_drewN | apply below_drew1) | exact HB2.out)))); (case aL => exact HLN.out); intro v7 w7 hv hw hg7 hat7; clear hg7 hat7))
      have HV := Aside0.mk hv
      have HW := Aside0.mk hw
      clear hv hw
      go_roundw
      case rel =>
        refine ⟨k + 1, by rw [HWK.out], by have := HLT.out; omega, ⟨?_⟩, HW⟩
        rw [HSN.out, ← List.append_assoc]
        exact HV.out
      case measure => exact meas_step K k HLT.out HWK.out
    · obtain rfl : k = K := by omega
      have hb : decide ((k : Int) < (k : Int)) = false := by simp
      go_wp2_with fail
      go_ret2
      exact ⟨_, rfl, HO2.out, HB2.out⟩
end Go.Proofs.YtmeblifbkhpdnaaDoor.K
namespace Go.Proofs.YtmeblifbkhpdnaaDoor.K
set_option linter.unusedVariables false
set_option linter.unusedSimpArgs false
open Go.RowKit Go.Proofs.YtmeblifbkhpdnaaDoorW.PrintWords Go.Proofs.YtmeblifbkhpdnaaDoorW.PrintLast Go.Proofs.YtmeblifbkhpdnaaDoorW.PrintMore
theorem may_on {k a : Int} {x y : Bool} (h : may k a x y = true) (hh : iHas k a = true) : x = true := by
  unfold may at h
  rw [hh] at h
  simpa using h
theorem may_off {k a : Int} {x y : Bool} (h : may k a x y = true) (hh : iHas k a = false) : y = true := by
  unfold may at h
  rw [hh] at h
  simpa using h
theorem within_iff (n a b : Int) : within n a b = true ↔ a ≤ n ∧ n ≤ b := by
  unfold within
  simp
theorem qty_iff (n : Int) : qty n = true ↔ 1 ≤ n ∧ n ≤ 2147483647 := within_iff n 1 2147483647
theorem opOk_parts (o : Opn) (h : opOk o = true) : within o.f0 1 9 = true ∧ may o.f0 1 (nameOk o.f1) o.f1.toList.isEmpty = true ∧ may o.f0 2 (qty o.f2) (o.f2 == 0) = true ∧ may o.f0 4 (opN o) (o.f3 == 0) = true ∧ may o.f0 16 (linesOk o.f4) ((o.f4.length : Int) == 0) = true := by
  unfold opOk at h
  simp only [Bool.and_eq_true] at h
  exact h
theorem nameOk_size (s : ByteArray) (h : nameOk s = true) : s.size ≤ 8 := by
  unfold nameOk at h
  simp at h
  exact h.2.1
def lineB (x : Line) : List Int := vEnc x.f0.size ++ sB x.f0 ++ vEnc x.f1.toNat
def opB (o : Opn) : List Int :=
  [o.f0 % 256] ++ (if iHas o.f0 1 then vEnc o.f1.size ++ sB o.f1 else []) ++ (if iHas o.f0 2 then vEnc o.f2.toNat else []) ++
    (if iHas o.f0 8 then vEnc (zig o.f3) else if iHas o.f0 4 then vEnc o.f3.toNat else []) ++ (if iHas o.f0 16 then vEnc o.f4.length ++ o.f4.flatMap lineB else [])
theorem lineB_len (x : Line) (h : lineOk x = true) : (lineB x).length ≤ 28 := by
  unfold lineOk at h
  simp only [Bool.and_eq_true] at h
  have h1 := nameOk_size _ h.1
  have h2 := (qty_iff _).1 h.2
  have e1 := vEnc_ten x.f0.size (by omega)
  have e2 := vEnc_ten x.f1.toNat (by omega)
  unfold lineB
  rw [List.length_append, List.length_append, sB_len]
  omega
theorem lines_facts (l : List Line) (h : linesOk l = true) : l.all lineOk = true ∧ 0 < l.length ∧ l.length ≤ 4 ∧ (l.map (·.f0)).Nodup := by
  unfold linesOk at h
  simp only [Bool.and_eq_true, decide_eq_true_eq] at h
  exact h
end Go.Proofs.YtmeblifbkhpdnaaDoor.K
namespace Go.Proofs.YtmeblifbkhpdnaaDoor.K
set_option linter.unusedVariables false
set_option linter.unusedSimpArgs false
open Go.RowKit Go.Proofs.YtmeblifbkhpdnaaDoorW.PrintWords Go.Proofs.YtmeblifbkhpdnaaDoorW.PrintLast Go.Proofs.YtmeblifbkhpdnaaDoorW.PrintMore
theorem one_lit (e base : Nat) (w : World) (x : Int) (hb : base ≤ w.heap.size) : Kd.R (Kd.int .u8) e (w.alloc (.cells #[.int .u8 x] e)) base (fun _ => True) (.slice (some ⟨w.heap.size, 0, none⟩) 1 1) [x] := by
  refine ⟨fun _ _ => trivial, [.int .u8 x], ?_, ?_⟩
  · have h2 := World.ownsRow_lit (base := base) (e := e) (size := 1) w #[.int .u8 x] 1 hb (by simp [maxLen]) (by simp)
    exact h2
  · refine ⟨rfl, fun j p hj => ?_⟩
    cases j with
    | zero =>
      simp at hj
      subst hj
      rfl
    | succ j => simp at hj
theorem has8_4 (k : Int) (h : iHas k 8 = true) : iHas k 4 = true := by
  unfold iHas at h ⊢
  simp only [Bool.and_eq_true, decide_eq_true_eq] at h
  obtain ⟨⟨h0, h1⟩, h2⟩ := h
  have : k = 0 ∨ k = 1 ∨ k = 2 ∨ k = 3 ∨ k = 4 ∨ k = 5 ∨ k = 6 ∨ k = 7 ∨ k = 8 ∨ k = 9 := by omega
  rcases this with rfl | rfl | rfl | rfl | rfl | rfl | rfl | rfl | rfl | rfl <;> revert h2 <;> decide
def I64 (n : Int) : Prop := -9223372036854775808 ≤ n ∧ n < 9223372036854775808
theorem opN_range (o : Opn) (hw : I64 o.f3) (h : opN o = true) : -2147483647 ≤ o.f3 ∧ o.f3 ≤ 2147483647 := by
  unfold opN at h
  simp only [Bool.or_eq_true, Bool.and_eq_true, qty_iff] at h
  unfold I64 at hw
  rcases h with h | ⟨_, h⟩
  · omega
  · rw [wrap64] at h
    omega
def opR (o : Opn) : List Int := if opOk o then opB o else []
abbrev LnS (w0 : World) (s : ByteArray) (n : Int) (W : World) : Prop := W.cell? ⟨w0.heap.size, 0, none⟩ = some (.string s) ∧ W.cell? ⟨w0.heap.size, 1, none⟩ = some (.int .i64 n) ∧ Aside0 (Below w0.heap.size w0 W)
theorem LnS.next {w0 W W' : World} {s : ByteArray} {n : Int} (h : LnS w0 s n W) (hb : Below W.heap.size W W') : LnS w0 s n W' := by
  obtain ⟨h0, h1, h2⟩ := h
  have hlt : w0.heap.size < W.heap.size := cell_blk h0
  exact ⟨(hb.cell (p := ⟨w0.heap.size, 0, none⟩) hlt).trans h0, (hb.cell (p := ⟨w0.heap.size, 1, none⟩) hlt).trans h1, ⟨h2.out.trans (hb.mono (by omega))⟩⟩
theorem LnS.next' {w0 W W' : World} {s : ByteArray} {n : Int} (hb : Below W.heap.size W W') (h : LnS w0 s n W) : LnS w0 s n W' := h.next hb
theorem LnS.drew {w0 W : World} {s : ByteArray} {n : Int} (h : LnS w0 s n W) : LnS w0 s n W.drew := h.next (Below.refl _ _ |>.drew)
theorem LnS.made (w : World) (s : ByteArray) (n : Int) (t : TypeId) : LnS w s n (w.alloc (.cells #[.string s, .int .i64 n] t)) := ⟨by simp, by simp, ⟨below_alloc (Below.refl _ _) _⟩⟩
theorem opB_rows (o : Opn) (r1 r2 r3 : List Int) (h1 : r1 = [o.f0 % 256] ++ (if iHas o.f0 1 then vEnc o.f1.size ++ sB o.f1 else [])) (h2 : r2 = r1 ++ (if iHas o.f0 2 then vEnc o.f2.toNat else []))
    (h3 : r3 = r2 ++ (if iHas o.f0 8 then vEnc (zig o.f3) else if iHas o.f0 4 then vEnc o.f3.toNat else [])) : opB o = r3 ++ (if iHas o.f0 16 then vEnc o.f4.length ++ o.f4.flatMap lineB else []) := by
  unfold opB
  rw [h3, h2, h1]
set_option maxRecDepth 20000 in
set_option maxHeartbeats 4000000 in
theorem item_Bytes (w : World) (A : Option Addr) (c : Nat) (o : Opn) (hG : GItem w) (hA : kLine.C w A o.f4.length o.f4) (hc : o.f4.length ≤ c) (hw : I64 o.f3) :
    Calls Tryd.prog 75 #[.agg #[.int .i64 o.f0, .string o.f1, .int .i64 o.f2, .int .i64 o.f3, .slice A o.f4.length c]] w fun en w' => ∃ v, en = .returned (.tuple #[v, .int .i64 (opE o)]) ∧ Kd.R (Kd.int .u8) 5 w' w.heap.size (fun _ => True) v (opR o) ∧ Below w.heap.size w w' := by
  have HG := Aside0.mk hG
  have HA := Aside0.mk hA
  have HC := Aside0.mk hc
  have HW64 := Aside0.mk hw
  clear hG hA hc hw
  have HQ := Aside0.mk (OpS.made w o.f0 o.f1 o.f2 o.f3 (.slice A o.f4.length c) 36)
  have HCK := fun W (h : OpS w w.heap.size o.f0 o.f1 o.f2 o.f3 (.slice A o.f4.length c) W) => item_Check W A c o (HG.out.keep h.low HG.out.lt) (Kd.C_below HA.out h.low) HC.out
  go_enter Tryd.func75, Tryd.ntmps75
  go_wp2_with fail
  refine (HCK _ HQ.out).mono ?_
  rintro en w1 ⟨rfl, hb⟩
  have hS := HQ.out.next hb
  have HB := Aside0.mk hS.low
  clear hb
  have hE : opE o = if opOk o then 0 else 2 := rfl
  have hR : opR o = if opOk o then opB o else [] := rfl
  cases hok : opOk o
  · rw [hok] at hE hR
    simp only [Bool.false_eq_true, if_false] at hE hR
    have HE := Aside0.mk hE
    rw [hE]
    clear hS HCK
    have HR := Aside0.mk hR
    clear hR hE
    go_wp2_with fail
    go_ret2
    exact ⟨.slice none 0 0, by rw [HE.out]; rfl, by rw [HR.out]; exact Kd.R_nil _ _ _ _ _, HB.out⟩
  · rw [hok] at hE hR
    simp only [if_true] at hE hR
    rw [hE]
    have HR := Aside0.mk hR
    have HE0 := Aside0.mk hE
    clear hR hE
    obtain ⟨p0, p1, p2, p3, p4⟩ := opOk_parts o hok
    have hO : Kd.R (Kd.int .u8) 5 (w1.alloc (.cells #[.int .u8 (o.f0 % 256)] 5)) w.heap.size (fun _ => True) (.slice (some ⟨w1.heap.size, 0, none⟩) 1 1) [o.f0 % 256] := one_lit _ _ _ _ HB.out.size
    have HO := Aside0.mk hO
    have hS2 := hS.next (below_alloc (Below.refl _ w1) (.cells #[.int .u8 (o.f0 % 256)] 5))
    have HS := Aside0.mk hS2
    clear hO
    go_upto_if 19 with (first | (go_at_call 90; refine (item_has _ o.f0 1 (HG.out.keep HS.out.low HG.out.lt)).mono ?_; rintro e w' ⟨rfl, rfl⟩))
    go_cut [5] (fun s5 wx => ∃ row, Aside0 (row = [o.f0 % 256] ++ (if iHas o.f0 1 then vEnc o.f1.size ++ sB o.f1 else [])) ∧ Aside0 (Kd.R (Kd.int .u8) 5 wx w.heap.size (fun _ => True) s5 row) ∧ OpS w w.heap.size o.f0 o.f1 o.f2 o.f3 (.slice A o.f4.length c) wx)
    case first =>
      cases h1 : iHas o.f0 1
      · go_wp2_with fail
        go_meet
        exact ⟨[o.f0 % 256], ⟨by simp [h1]⟩, HO, HS.out⟩
      · obtain ⟨A1, c1, e1, hc1, hr1⟩ := R_C HO.out
        cases e1
        have HT := Aside0.mk (item_text _ _ 1 [o.f0 % 256] o.f1 hr1 hc1 (by have := nameOk_size _ (may_on p1 h1); simp only [List.length_cons, List.length_nil]; omega))
        obtain ⟨hs0, hs1, hs2, hs3, hs4, _⟩ := hS
        go_wp2_with (first | (go_at_call 91; refine HT.out.mono ?_; rintro e w' ⟨v, rfl, hv, hb⟩))
        go_meet
        exact ⟨_, ⟨by rw [h1]; rfl⟩, ⟨Kd.R_lower hv HS.out.low.size⟩, HS.out.next hb⟩
    case rest =>
      clear hS hS2 HS HO HB
      obtain ⟨row1, HR1, HO1, hS1⟩ := hcut
      have HS1 := Aside0.mk hS1
      obtain ⟨hs0, hs1, hs2, hs3, hs4, _⟩ := hS1
      go_upto_if 26 with (first | (go_at_call 90; refine (item_has _ o.f0 2 (HG.out.keep HS1.out.low HG.out.lt)).mono ?_; rintro e w' ⟨rfl, rfl⟩))
      have hlen1 : row1.length ≤ 19 := by
        rw [HR1.out]
        cases h1 : iHas o.f0 1
        · simp
        · have e1 := nameOk_size _ (may_on p1 h1)
          have e2 := vEnc_ten o.f1.size (by omega)
          simp only [if_true, List.length_append, List.length_cons, List.length_nil, sB_len]
          omega
      have HL1 := Aside0.mk hlen1
      clear hlen1
      go_cut [5] (fun s5 wx => ∃ row, Aside0 (row = row1 ++ (if iHas o.f0 2 then vEnc o.f2.toNat else [])) ∧ Aside0 (row.length ≤ 29) ∧ Aside0 (Kd.R (Kd.int .u8) 5 wx w.heap.size (fun _ => True) s5 row) ∧ OpS w w.heap.size o.f0 o.f1 o.f2 o.f3 (.slice A o.f4.length c) wx)
      case first =>
        cases h2 : iHas o.f0 2
        · go_wp2_with fail
          go_meet
          exact ⟨row1, ⟨by simp [h2]⟩, ⟨by have := HL1.out; omega⟩, HO1, HS1.out⟩
        · have hq := (qty_iff _).1 (may_on p2 h2)
          obtain ⟨A1, c1, e1, hc1, hr1⟩ := R_C HO1.out
          cases e1
          have HT := item_number _ _ c1 row1 o.f2.toNat hr1 hc1 (by have := HL1.out; omega) (by omega)
          rw [Int.toNat_of_nonneg (by omega)] at HT
          have HT2 := Aside0.mk HT
          clear HT hq
          go_wp2_with (first | (go_at_call 92; refine HT2.out.mono ?_; rintro e w' ⟨v, rfl, hv, hb⟩))
          go_meet
          exact ⟨_, ⟨by rw [h2]; rfl⟩, ⟨by have h := HL1.out; have h3 := vEnc_ten o.f2.toNat (by have := (qty_iff _).1 (may_on p2 h2); omega); simp only [if_true, List.length_append]; omega⟩, ⟨Kd.R_lower hv HS1.out.low.size⟩, HS1.out.next hb⟩
      case rest =>
        clear hs0 hs1 hs2 hs3 hs4 HS1 HO1
        obtain ⟨row2, HR2, HL2, HO2, hS2⟩ := hcut
        have HS2 := Aside0.mk hS2
        obtain ⟨hs0, hs1, hs2, hs3, hs4, _⟩ := hS2
        go_upto_block 0 with fail
        go_cut [5] (fun s5 wx => ∃ row, Aside0 (row = row2 ++ (if iHas o.f0 8 then vEnc (zig o.f3) else if iHas o.f0 4 then vEnc o.f3.toNat else [])) ∧ Aside0 (row.length ≤ 39) ∧ Aside0 (Kd.R (Kd.int .u8) 5 wx w.heap.size (fun _ => True) s5 row) ∧ OpS w w.heap.size o.f0 o.f1 o.f2 o.f3 (.slice A o.f4.length c) wx)
        case first =>
          cases h8 : iHas o.f0 8
          · cases h4 : iHas o.f0 4
            · go_wp2_with (first | (go_at_call_of 90 (Value.int IntKind.i64 8); refine (item_has _ o.f0 8 (HG.out.keep HS2.out.low HG.out.lt)).mono ?_; rintro e w' ⟨rfl, rfl⟩) | (go_at_call_of 90 (Value.int IntKind.i64 4); refine (item_has _ o.f0 4 (HG.out.keep HS2.out.low HG.out.lt)).mono ?_; rintro e w' ⟨rfl, rfl⟩))
              go_meet
              exact ⟨row2, ⟨by simp [h8, h4]⟩, ⟨by have := HL2.out; omega⟩, HO2, HS2.out⟩
            · have hq : 1 ≤ o.f3 ∧ o.f3 ≤ 2147483647 := by
                have h := may_on p3 h4
                unfold opN at h
                rw [h8] at h
                exact (qty_iff _).1 (by simpa using h)
              have HQ3 := Aside0.mk hq
              obtain ⟨A1, c1, e1, hc1, hr1⟩ := R_C HO2.out
              cases e1
              have HT := item_number _ _ c1 row2 o.f3.toNat hr1 hc1 (by have := HL2.out; omega) (by omega)
              rw [Int.toNat_of_nonneg (by omega)] at HT
              have HT2 := Aside0.mk HT
              clear HT hq
              go_wp2_with (first | (go_at_call_of 90 (Value.int IntKind.i64 8); refine (item_has _ o.f0 8 (HG.out.keep HS2.out.low HG.out.lt)).mono ?_; rintro e w' ⟨rfl, rfl⟩) | (go_at_call_of 90 (Value.int IntKind.i64 4); refine (item_has _ o.f0 4 (HG.out.keep HS2.out.low HG.out.lt)).mono ?_; rintro e w' ⟨rfl, rfl⟩) | (go_at_call 92; refine HT2.out.mono ?_; rintro e w' ⟨v, rfl, hv, hb⟩))
              go_meet
              exact ⟨_, ⟨by rw [h8, h4]; rfl⟩, ⟨by have h := HL2.out; have h3 := vEnc_ten o.f3.toNat (by have := HQ3.out; omega); simp only [Bool.false_eq_true, if_true, if_false, List.length_append]; omega⟩, ⟨Kd.R_lower hv HS2.out.low.size⟩, HS2.out.next hb⟩
          · have HQ3 := Aside0.mk (opN_range o HW64.out (may_on p3 (has8_4 _ h8)))
            obtain ⟨A1, c1, e1, hc1, hr1⟩ := R_C HO2.out
            cases e1
            have HT := bits_Int _ _ c1 row2 o.f3 hr1 hc1 (by have := HL2.out; omega) (by have := HQ3.out; omega) (by have := HQ3.out; omega)
            have HT2 := Aside0.mk HT
            clear HT
            go_wp2_with (first | (go_at_call_of 90 (Value.int IntKind.i64 8); refine (item_has _ o.f0 8 (HG.out.keep HS2.out.low HG.out.lt)).mono ?_; rintro e w' ⟨rfl, rfl⟩) | (go_at_call 93; refine HT2.out.mono ?_; rintro e w' ⟨v, rfl, hv, hb⟩))
            go_meet
            exact ⟨_, ⟨by rw [h8]; rfl⟩, ⟨by have h := HL2.out; have h3 := vEnc_ten (zig o.f3) (zig_lt _ (by have := HQ3.out; omega) (by have := HQ3.out; omega)); simp only [if_true, List.length_append]; omega⟩, ⟨Kd.R_lower hv HS2.out.low.size⟩, HS2.out.next hb⟩
        case rest =>
          clear hs0 hs1 hs2 hs3 hs4 HS2 HO2
          obtain ⟨row3, HR3, HL3, HO3, hS3⟩ := hcut
          have HS3 := Aside0.mk hS3
          obtain ⟨hs0, hs1, hs2, hs3, hs4, _⟩ := hS3
          have HRo := Aside0.mk (HR.out.trans (opB_rows o row1 row2 row3 HR1.out HR2.out HR3.out))
          clear HR HR1 HR2 HR3
          cases h16 : iHas o.f0 16
          · go_wp2_with (first | (go_at_call 90; refine (item_has _ o.f0 16 (HG.out.keep HS3.out.low HG.out.lt)).mono ?_; rintro e w' ⟨rfl, rfl⟩))
            go_ret2
            exact ⟨_, by rw [HE0.out]; rfl, by rw [HRo.out, h16]; simpa using HO3.out, HS3.out.low⟩
          · obtain ⟨lf0, lf1, lf2, _⟩ := lines_facts o.f4 (may_on p4 h16)
            have HLF := Aside0.mk lf0
            have HLF2 := Aside0.mk lf2
            obtain ⟨A1, c1, e1, hc1, hr1⟩ := R_C HO3.out
            cases e1
            have HT2 := Aside0.mk (item_number _ _ c1 row3 o.f4.length hr1 hc1 (by have := HL3.out; omega) (by omega))
            rw [h16, if_pos rfl] at HRo
            clear lf0 lf1 lf2 hc1 hr1 HO3 p0 p1 p2 p3 p4
            go_wp2_with (first | (go_at_call 90; refine (item_has _ o.f0 16 (HG.out.keep HS3.out.low HG.out.lt)).mono ?_; rintro e w' ⟨rfl, rfl⟩) | (go_at_call 92; refine HT2.out.mono ?_; rintro e w' ⟨v, rfl, hv, hb⟩; have hS4 := Aside0.mk (HS3.out.next hb); obtain ⟨hs0, hs1, hs2, hs3, hs4, _⟩ := hS4.out))
            have HB4 := Aside0.mk hS4.out.low
            have HO4 := Aside0.mk (Kd.R_lower hv HS3.out.low.size)
            clear hS4 hv hb hs0 hs1 hs2 hs3 hs4 HS3
            have HLM : Aside0 (o.f4.length ≤ maxLen) := ⟨HA.out.2.1⟩
            go_loopw [5, 58] (fun s5 v wr => ∃ (k : Nat) (row : List Int), k ≤ o.f4.length ∧ v = .int .i64 k ∧ Aside0 (row = row3 ++ vEnc o.f4.length ++ (o.f4.take k).flatMap lineB) ∧ Aside0 (row.length ≤ 49 + 28 * k) ∧ Aside0 (Kd.R (Kd.int .u8) 5 wr w.heap.size (fun _ => True) s5 row) ∧ Aside0 (Below w.heap.size w wr)) (fun _ v _ => o.f4.length - (intOf v).toNat)
            case atStart => exact ⟨0, _, by omega, rfl, ⟨by simp⟩, ⟨by have h := HL3.out; have h3 := vEnc_ten o.f4.length (by have := HLF2.out; omega); rw [List.length_append]; omega⟩, HO4, HB4⟩
            case round =>
              obtain ⟨k, row, hk, rfl, HRW, HRL, HO5, HB5⟩ := hrel
              by_cases hlt : k < o.f4.length
              · have hb : decide ((k : Int) < (o.f4.length : Int)) = true := by simp; omega
                obtain ⟨ad, e1, hc0, hc1⟩ := at_T118 HA.out (k : Int) (by omega) (by omega)
                cases e1
                rw [rd_T_at o.f4 k hlt] at hc0 hc1
                replace hc0 := (HB5.out.cell (cell_blk hc0)).trans hc0
                replace hc1 := (HB5.out.cell (cell_blk hc1)).trans hc1
                rw [Int.toNat_natCast] at hc0 hc1
                have hx := List.all_eq_true.1 HLF.out _ (List.getElem_mem hlt)
                have HT := Aside0.mk (take_snoc o.f4 k hlt)
                generalize o.f4[k] = x at *
                have HX := Aside0.mk hx
                clear hx
                obtain ⟨A1, c1, e1, hc1', hr1⟩ := R_C HO5.out
                cases e1
                have HR1 := Aside0.mk hr1
                have HC1 := Aside0.mk hc1'
                clear hr1 hc1'
                have hlx : lineOk x = (nameOk x.f0 && qty x.f1) := rfl
                obtain ⟨hx1, hx2⟩ : nameOk x.f0 = true ∧ qty x.f1 = true := by have := HX.out; rw [hlx] at this; simpa using this
                have hx3 := nameOk_size _ hx1
                have hx4 := (qty_iff _).1 hx2
                have HLX := Aside0.mk (lineB_len x HX.out)
                obtain ⟨row2, hrow2⟩ : ∃ r, r = row ++ (vEnc x.f0.size ++ sB x.f0) := ⟨_, rfl⟩
                have hl2 : row2.length ≤ 49 + 28 * 4 + 18 := by
                  have h1 := HRL.out
                  have h2 := HLF2.out
                  have h3 := vEnc_ten x.f0.size (by omega)
                  rw [hrow2, List.length_append, List.length_append, sB_len]
                  omega
                have HTX : ∀ W' : World, LnS wr x.f0 x.f1 W' → Calls Tryd.prog 91 #[.slice A1 row.length c1, .string x.f0] W' fun en w' => ∃ v, en = .returned v ∧ Kd.R (Kd.int .u8) 5 w' W'.heap.size (fun _ => True) v row2 ∧ Below W'.heap.size W' w' := fun W' h => by
                  rw [hrow2]
                  exact item_text W' A1 c1 row x.f0 (Kd.C_below HR1.out h.2.2.out) HC1.out (by have h1 := HRL.out; have h2 := HLF2.out; omega)
                have HNM : ∀ (W' : World) (A2 : Option Addr) (c2 : Nat), Kd.C (Kd.int .u8) W' A2 row2.length row2 → row2.length ≤ c2 → Calls Tryd.prog 92 #[.slice A2 row2.length c2, .int .i64 x.f1] W' fun en w' => ∃ v, en = .returned v ∧ Kd.R (Kd.int .u8) 5 w' W'.heap.size (fun _ => True) v (row2 ++ vEnc x.f1.toNat) ∧ Below W'.heap.size W' w' := fun W' A2 c2 h1 h2 => by
                  have := item_number W' A2 c2 row2 x.f1.toNat h1 h2 (by omega) (by omega)
                  rwa [Int.toNat_of_nonneg (by omega)] at this
                have hln : LnS wr x.f0 x.f1 (wr.alloc (.cells #[.string x.f0, .int .i64 x.f1] 118)) := LnS.made _ _ _ _
                have HROW2 := Aside0.mk hrow2
                have HL2' := Aside0.mk hl2
                clear hx1 hx2 hx3 hx4 hl2 hrow2 hlx
                obtain ⟨W, hW⟩ : ∃ W, W = wr.alloc (.cells #[.string x.f0, .int .i64 x.f1] 118) := ⟨_, rfl⟩
                go_upto_region 18 with fail
                rw [← hW] at hln ⊢
                clear hW hc0 hc1
                go_region_held3 (fun w' => LnS wr x.f0 x.f1 w') (first | assumption | (apply LnS.drew; assumption) | (apply LnS.next'; assumption; assumption))
                  (first
                    | (go_at_call 91; refine (HTX _ ?_).mono ?_; assumption; rintro e wt ⟨v, rfl, hv, hb⟩; obtain ⟨A2, c2, e2, hc2, hr2⟩ := R_C hv; cases e2)
                    | (go_at_call 92; refine (HNM _ _ _ hr2 hc2).mono ?_; rintro e w' ⟨v, rfl, hv2, hb2⟩))
                have hS6 : LnS wr x.f0 x.f1 w' := by assumption
                have HB6 := Aside0.mk (HB5.out.trans (hS6.2.2.out.mono HB5.out.size))
                have HO6 := Aside0.mk (Kd.R_lower hv2 (show w.heap.size ≤ wt.heap.size from Nat.le_trans HB5.out.size (Nat.le_trans hln.2.2.out.size hb.size)))
                have hwk := wrap_next o.f4.length k hlt HLM.out
                clear hS6 hv hv2 hb hb2 hr2 hc2 HTX HNM hln
                go_wp2_with fail
                go_roundw
                case rel =>
                  have e : row2 ++ vEnc x.f1.toNat = row3 ++ vEnc o.f4.length ++ (o.f4.take (k + 1)).flatMap lineB := by
                    rw [HROW2.out, HRW.out, HT.out, List.flatMap_append]
                    simp [lineB, List.append_assoc]
                  refine ⟨k + 1, _, by omega, by rw [hwk], ⟨e⟩, ⟨?_⟩, HO6, HB6⟩
                  have h1 := HRL.out
                  have h2 := HLX.out
                  unfold lineB at h2
                  rw [HROW2.out]
                  simp only [List.length_append] at h2 ⊢
                  omega
                case measure => exact meas_step o.f4.length k hlt hwk
              · have hb : decide ((k : Int) < (o.f4.length : Int)) = false := by simp; omega
                obtain rfl : k = o.f4.length := by omega
                go_wp2_with fail
                go_ret2
                refine ⟨_, by rw [HE0.out]; rfl, ?_, HB5.out⟩
                have h := HO5.out
                rw [HRW.out, List.take_length] at h
                rw [HRo.out, ← List.append_assoc]
                exact h
end Go.Proofs.YtmeblifbkhpdnaaDoor.K
namespace Go.Proofs.YtmeblifbkhpdnaaDoor.K
set_option linter.unusedVariables false
set_option linter.unusedSimpArgs false
open Go.RowKit Go.Proofs.YtmeblifbkhpdnaaDoorW.PrintWords Go.Proofs.YtmeblifbkhpdnaaDoorW.PrintLast Go.Proofs.YtmeblifbkhpdnaaDoorW.PrintMore
theorem Rd.keep {W W' : World} {g b : Nat} {l : List Int} {e : Int} {cs : Array Value} {t : TypeId} (h : Rd W g l e) (hgr : W.grownBy W' (some b)) (hne : b ≠ g) (hb : W.heap[b]? = some (.cells cs t (0, 0))) (ht : 5 ≠ t) : Rd W' g l e := by
  obtain ⟨A, c, h2, hl, hc, hbt, hu⟩ := h
  refine ⟨A, c, blk_grown h2 hgr (fun h => hne (Option.some.inj h).symm), hl, bytes_grown hc hgr (fun ad ha _ => ?_), hbt, fun ad ha => ?_⟩
  · obtain ⟨cl, h⟩ := hu ad ha
    exact blk_ne h hb ht
  · obtain ⟨cl, h⟩ := hu ad ha
    exact ⟨cl, blk_grown h hgr (fun q => blk_ne h hb ht (Option.some.inj q))⟩
theorem Rd.below {W W' : World} {g : Nat} {l : List Int} {e : Int} (h : Rd W g l e) (hb : Below W.heap.size W W') : Rd W' g l e := by
  obtain ⟨A, c, h2, hl, hc, hbt, hu⟩ := h
  exact ⟨A, c, blk_below h2 hb, hl, Kd.C_below hc hb, hbt, fun ad ha => by obtain ⟨cl, h⟩ := hu ad ha; exact ⟨cl, blk_below h hb⟩⟩
def PSt (w0 : World) (b g : Nat) (k : Int) (s : ByteArray) (r n : Int) (v : Value) (x : List Int × Int) (W : World) : Prop :=
  W.heap[b]? = some (.cells #[.int .i64 k, .string s, .int .i64 r, .int .i64 n, v] 36 (0, 0)) ∧ Rd W g x.1 x.2 ∧ b ≠ g ∧ w0.heap.size ≤ b ∧ w0.heap.size ≤ g ∧ Below w0.heap.size w0 W ∧ x.1.length < 140737488355328
section
variable {w0 W W' : World} {b g : Nat} {k : Int} {s : ByteArray} {r n : Int} {v : Value} {x y : List Int × Int}
theorem PSt.box (h : PSt w0 b g k s r n v x W) : W.heap[b]? = some (.cells #[.int .i64 k, .string s, .int .i64 r, .int .i64 n, v] 36 (0, 0)) := h.1
theorem PSt.rd (h : PSt w0 b g k s r n v x W) : Rd W g x.1 x.2 := h.2.1
theorem PSt.ne (h : PSt w0 b g k s r n v x W) : b ≠ g := h.2.2.1
theorem PSt.lb (h : PSt w0 b g k s r n v x W) : w0.heap.size ≤ b := h.2.2.2.1
theorem PSt.lg (h : PSt w0 b g k s r n v x W) : w0.heap.size ≤ g := h.2.2.2.2.1
theorem PSt.low (h : PSt w0 b g k s r n v x W) : Below w0.heap.size w0 W := h.2.2.2.2.2.1
theorem PSt.len (h : PSt w0 b g k s r n v x W) : x.1.length < 140737488355328 := h.2.2.2.2.2.2
theorem PSt.cells (h : PSt w0 b g k s r n v x W) : W.cell? ⟨b, 0, none⟩ = some (.int .i64 k) ∧ W.cell? ⟨b, 1, none⟩ = some (.string s) ∧ W.cell? ⟨b, 2, none⟩ = some (.int .i64 r) ∧ W.cell? ⟨b, 3, none⟩ = some (.int .i64 n) ∧ W.cell? ⟨b, 4, none⟩ = some v :=
  ⟨blk_cell h.box 0, blk_cell h.box 1, blk_cell h.box 2, blk_cell h.box 3, blk_cell h.box 4⟩
theorem PSt.frozen (h : PSt w0 b g k s r n v x W) (i : Nat) : W.frozen? ⟨b, i, none⟩ = false := blk_frozen h.box i
theorem below_grownG {w0 W W' : World} {g : Nat} (h : Below w0.heap.size w0 W) (hg : W.grownBy W' (some g)) (hl : w0.heap.size ≤ g) : Below w0.heap.size w0 W' :=
  h.grown hg h.size (by intro k hk; cases hk; exact hl)
theorem PSt.call (h : PSt w0 b g k s r n v x W) {l : List Int} {e : Int} (hr : Rd W' g l e) (hy : l.length ≤ x.1.length) (hg : W.grownBy W' (some g)) : PSt w0 b g k s r n v (l, e) W' :=
  ⟨blk_grown h.box hg (fun q => h.ne (Option.some.inj q)), hr, h.ne, h.lb, h.lg, below_grownG h.low hg h.lg, Nat.lt_of_le_of_lt hy h.len⟩
theorem PSt.below (h : PSt w0 b g k s r n v x W) (hb : Below W.heap.size W W') : PSt w0 b g k s r n v x W' :=
  ⟨blk_below h.box hb, h.rd.below hb, h.ne, h.lb, h.lg, h.low.trans (hb.mono h.low.size), h.len⟩
theorem PSt.set (h : PSt w0 b g k s r n v x W) (i : Nat) (u : Value) {k' : Int} {s' : ByteArray} {r' n' : Int} (he : (#[.int .i64 k, .string s, .int .i64 r, .int .i64 n, v] : Array Value).setIfInBounds i u = #[.int .i64 k', .string s', .int .i64 r', .int .i64 n', v]) :
    PSt w0 b g k' s' r' n' v x (W.setCell ⟨b, i, none⟩ u) := by
  have hgr : W.grownBy (W.setCell ⟨b, i, none⟩ u) (some b) := grown_set (World.grownBy.refl W _)
  refine ⟨?_, h.rd.keep hgr h.ne h.box (by decide), h.ne, h.lb, h.lg, below_grownG h.low hgr h.lb, h.len⟩
  rw [← he]
  exact blk_set h.box i u
theorem PSt.set4 (h : PSt w0 b g k s r n v x W) (u : Value) : PSt w0 b g k s r n u x (W.setCell ⟨b, 4, none⟩ u) := by
  have hgr : W.grownBy (W.setCell ⟨b, 4, none⟩ u) (some b) := grown_set (World.grownBy.refl W _)
  exact ⟨blk_set h.box 4 u, h.rd.keep hgr h.ne h.box (by decide), h.ne, h.lb, h.lg, below_grownG h.low hgr h.lb, h.len⟩
theorem PSt.other (h : PSt w0 b g k s r n v x W) {q : Nat} {cs : Array Value} {t : TypeId} (hb : W.heap[q]? = some (.cells cs t (0, 0))) (ht : 5 ≠ t) (hq : w0.heap.size ≤ q) (hqb : q ≠ b) (hqg : q ≠ g) (hgr : W.grownBy W' (some q)) : PSt w0 b g k s r n v x W' :=
  ⟨blk_grown h.box hgr (fun e => hqb (Option.some.inj e).symm), h.rd.keep hgr hqg hb ht, h.ne, h.lb, h.lg, below_grownG h.low hgr hq, h.len⟩
theorem grown_none {W W' : World} (h : W.grownBy W' none) : Below W.heap.size W W' := ⟨h.os, h.tape, h.output, h.size, fun i hi => h.block i hi (by simp)⟩
theorem PSt.app (h : PSt w0 b g k s r n v x W) {α : Type} {d : Kd α} {e : Nat} {ok : Nat → Prop} {u : Value} {xs : List α} (hR : d.R e W w0.heap.size ok u xs) (hok : ∀ j, ok j → j ≠ b ∧ j ≠ g) (ht : 5 ≠ e) (hgr : W.grownBy W' u.ownBlock) : PSt w0 b g k s r n v x W' := by
  cases ho : u.ownBlock with
  | none =>
    rw [ho] at hgr
    exact h.below (grown_none hgr)
  | some q =>
    rw [ho] at hgr
    obtain ⟨cl, hc⟩ := Kd.R_typed hR q ho
    exact h.other hc ht (Kd.R_base hR q ho) (hok q (hR.1 q ho)).1 (hok q (hR.1 q ho)).2 hgr
theorem PSt.lt (h : PSt w0 b g k s r n v x W) : b < W.heap.size ∧ g < W.heap.size := ⟨blk_lt h.box, h.rd.lt⟩
theorem PSt.set0 (h : PSt w0 b g k s r n v x W) (z : Int) : PSt w0 b g z s r n v x (W.setCell ⟨b, 0, none⟩ (.int .i64 z)) := h.set 0 _ rfl
theorem PSt.set1 (h : PSt w0 b g k s r n v x W) (z : ByteArray) : PSt w0 b g k z r n v x (W.setCell ⟨b, 1, none⟩ (.string z)) := h.set 1 _ rfl
theorem PSt.set2 (h : PSt w0 b g k s r n v x W) (z : Int) : PSt w0 b g k s z n v x (W.setCell ⟨b, 2, none⟩ (.int .i64 z)) := h.set 2 _ rfl
theorem PSt.set3 (h : PSt w0 b g k s r n v x W) (z : Int) : PSt w0 b g k s r z v x (W.setCell ⟨b, 3, none⟩ (.int .i64 z)) := h.set 3 _ rfl
end
theorem rText_range (l : List Int) (e : Int) (hb : CrcMath.Bytes l) : (rText l e).2.1.length ≤ l.length ∧ CrcMath.Bytes (rText l e).2.1 := by
  have h := rVar_range l e hb
  unfold rText
  split
  · exact ⟨h.2.2.2, h.2.2.1⟩
  · split
    · exact ⟨by simp, bytes_nil⟩
    · exact ⟨by rw [List.length_drop]; have := h.2.2.2; omega, fun z hz => h.2.2.1 z (List.mem_of_mem_drop hz)⟩
theorem rNum_range (n : Nat) (l : List Int) (e : Int) (hb : CrcMath.Bytes l) : (rNum n l e).2.1.length ≤ l.length ∧ CrcMath.Bytes (rNum n l e).2.1 := by
  unfold rNum
  split
  · exact ⟨Nat.le_refl _, hb⟩
  · split
    · exact ⟨by simp, bytes_nil⟩
    · exact ⟨by rw [List.length_drop]; omega, fun z hz => hb z (List.mem_of_mem_drop hz)⟩
theorem rNum1_range (l : List Int) (e : Int) (hb : CrcMath.Bytes l) : 0 ≤ (rNum 1 l e).1 ∧ (rNum 1 l e).1 < 256 := by
  unfold rNum
  split
  · exact ⟨Int.le_refl _, (by decide : (0 : Int) < 256)⟩
  · split
    · exact ⟨Int.le_refl _, (by decide : (0 : Int) < 256)⟩
    · have h := be_range l hb 1 (by omega)
      exact ⟨h.1, by simpa using h.2⟩
def pSku (k : Int) (x : List Int × Int) : ByteArray × List Int × Int := if iHas k 1 then (strOfNums (rText x.1 x.2).1, (rText x.1 x.2).2) else (⟨#[]⟩, x)
def pOrd (k : Int) (x : List Int × Int) : Int × List Int × Int := if iHas k 2 then (small (rVar x.1 x.2).1, (rVar x.1 x.2).2) else (0, x)
def pNum (k : Int) (x : List Int × Int) : Int × List Int × Int := if iHas k 8 then (zag (rVar x.1 x.2).1, (rVar x.1 x.2).2) else if iHas k 4 then (small (rVar x.1 x.2).1, (rVar x.1 x.2).2) else (0, x)
def pLine (x : List Int × Int) : Line × List Int × Int := (⟨strOfNums (rText x.1 x.2).1, small (rVar (rText x.1 x.2).2.1 (rText x.1 x.2).2.2).1⟩, (rVar (rText x.1 x.2).2.1 (rText x.1 x.2).2.2).2)
def pIter : Nat → List Int × Int → List Line × List Int × Int
  | 0, x => ([], x)
  | m + 1, x => ((pIter m x).1 ++ [(pLine (pIter m x).2).1], (pLine (pIter m x).2).2)
def pLns (k : Int) (x : List Int × Int) : List Line × List Int × Int := if iHas k 16 then pIter (min (rVar x.1 x.2).1.toNat 5) (rVar x.1 x.2).2 else ([], x)
def pOp0 (l : List Int) : Opn × List Int × Int :=
  let a := rNum 1 l 0
  let b := pSku a.1 a.2
  let c := pOrd a.1 b.2
  let d := pNum a.1 c.2
  let e := pLns a.1 d.2
  (⟨a.1, b.1, c.1, d.1, e.1⟩, e.2)
def zOp : Opn := ⟨0, ⟨#[]⟩, 0, 0, []⟩
def pOp (l : List Int) : Opn × Int :=
  if (pOp0 l).2.2 ≠ 0 then (zOp, (pOp0 l).2.2) else if rEnd (pOp0 l).2.1 (pOp0 l).2.2 ≠ 0 then (zOp, 4) else if opE (pOp0 l).1 ≠ 0 then (zOp, 4) else ((pOp0 l).1, 0)
end Go.Proofs.YtmeblifbkhpdnaaDoor.K
namespace Go.Proofs.YtmeblifbkhpdnaaDoor.K
set_option linter.unusedVariables false
set_option linter.unusedSimpArgs false
open Go.RowKit Go.Proofs.YtmeblifbkhpdnaaDoorW.PrintWords Go.Proofs.YtmeblifbkhpdnaaDoorW.PrintLast Go.Proofs.YtmeblifbkhpdnaaDoorW.PrintMore
theorem PSt.made {w w1 : World} {g : Nat} {l : List Int} (hr : Rd w1 g l 0) (hg : w.heap.size + 1 ≤ g) (hl : l.length < 140737488355328)
    (hb : Below (w.heap.size + 1) (w.alloc (.cells #[.int .i64 0, .string ⟨#[]⟩, .int .i64 0, .int .i64 0, .slice none 0 0] 36)) w1) : PSt w w.heap.size g 0 ⟨#[]⟩ 0 0 (.slice none 0 0) (l, 0) w1 :=
  ⟨(hb.block _ (by omega)).trans (blk_new w _), hr, by omega, Nat.le_refl _, by omega, (below_alloc (Below.refl _ _) _).trans (hb.mono (by omega)), hl⟩
theorem infoLine : (Tryd.prog.info? 118).map (fun i => (i.zero, i.size, i.bytes)) = some (some (.agg #[(.string ⟨#[]⟩), (.int .i64 0)]), 2, 24) := by kernel_rfl
theorem pIter_snoc {m : Nat} {x5 x x' : List Int × Int} {ls : List Line} {p : Line} (h : pIter m x5 = (ls, x)) (hp : pLine x = (p, x')) : pIter (m + 1) x5 = (ls ++ [p], x') := by
  rw [pIter, h, hp]
theorem ret_op {w0 W : World} {b g : Nat} {k : Int} {s : ByteArray} {r n : Int} {v : Value} {x : List Int × Int} {e : Int} {tmps : Array Value} (h : PSt w0 b g k s r n v x W) (h2 : tmps.getD 2 undef = .pointer (some ⟨b, 0, none⟩)) (h3 : tmps.getD 3 undef = .int .i64 e) :
    (results Tryd.f88 tmps).run Tryd.prog W = .ok (.tuple #[.agg #[.int .i64 k, .string s, .int .i64 r, .int .i64 n, v], .int .i64 e]) W := by
  obtain ⟨q0, q1, q2, q3, q4⟩ := h.cells
  rw [results_cell_tmp (p := 2) (u := 3) (ty := 36) rfl, h2, h3]
  simp [go_sem, q0, q1, q2, q3, q4]
set_option maxRecDepth 20000 in
set_option maxHeartbeats 4000000 in
theorem item_Parse (w : World) (A : Option Addr) (c : Nat) (l : List Int) (hG : GItem w) (hC : Kd.C (Kd.int .u8) w A l.length l) (hc : l.length ≤ c) (hb : CrcMath.Bytes l) (hl : l.length < 140737488355328) :
    Calls Tryd.prog 88 #[.slice A l.length c] w fun en w' => ∃ v, en = .returned (.tuple #[.agg #[.int .i64 (pOp l).1.f0, .string (pOp l).1.f1, .int .i64 (pOp l).1.f2, .int .i64 (pOp l).1.f3, v], .int .i64 (pOp l).2]) ∧ Kd.R kLine 118 w' w.heap.size (fun _ => True) v (pOp l).1.f4 ∧ Below w.heap.size w w' := by
  have HG := Aside0.mk hG
  have HC := Aside0.mk hC
  have HCC := Aside0.mk hc
  have HBY := Aside0.mk hb
  have HL := Aside0.mk hl
  clear hG hC hc hb hl
  have HREAD := bits_Read (w.alloc (.cells #[.int .i64 0, .string ⟨#[]⟩, .int .i64 0, .int .i64 0, .slice none 0 0] 36)) A c l (Kd.C_alloc HC.out _) HCC.out HBY.out HL.out
  have hQ := rNum1_range l 0 HBY.out
  have hQL := (rNum_range 1 l 0 HBY.out).1
  generalize hq : rNum 1 l 0 = q at hQ hQL
  obtain ⟨k, x1⟩ := q
  have HQ := Aside0.mk hq
  have HQL := Aside0.mk hQL
  have hkw : wrap64 k = k := wrap64_in (by omega) (by omega)
  clear hq hQL hQ
  go_enter Tryd.func88, Tryd.ntmps88
  go_upto_if 14 with (first | (go_at_call 24; refine HREAD.mono ?_; rintro e w1 ⟨g, rfl, hge, hr, hbb⟩; have HP := Aside0.mk (PSt.made hr (by simpa using hge) HL.out (by simpa using hbb)); clear hr hbb hge; have hne := HP.out.ne; have hf0 := HP.out.frozen 0) | (go_at_call 25; refine (rd_Num 1 (.inl rfl) _ g l 0 HP.out.rd 8 rfl).mono ?_; rw [HQ.out]; rintro e w2 ⟨rfl, hr, hg⟩; have HP2 := Aside0.mk (HP.out.call hr HQL.out hg); have HP3 := Aside0.mk (HP2.out.set0 k); clear hr hg hf0; have hf0 := HP2.out.frozen 0; have hc0 := HP2.out.cells.1) | (go_at_call 90; refine (item_has _ k 1 (HG.out.keep HP3.out.low HG.out.lt)).mono ?_; rintro e w' ⟨rfl, rfl⟩))
  go_cut [] (fun wx => ∃ (s : ByteArray) (x : List Int × Int), Aside0 (pSku k x1 = (s, x)) ∧ Aside0 (PSt w w.heap.size g k s 0 0 (.slice none 0 0) x wx))
  case first =>
    cases h1 : iHas k 1
    · go_wp2_with fail
      go_meet
      exact ⟨_, _, ⟨by unfold pSku; rw [h1]; rfl⟩, HP3⟩
    · have HT := Aside0.mk (rd_Text _ g _ _ HP3.out.rd HP3.out.len)
      have HTL := Aside0.mk (rText_range _ x1.2 HP3.out.rd.bytes).1
      generalize hq : rText x1.1 x1.2 = q at HT HTL
      obtain ⟨t, x2⟩ := q
      have HQ2 := Aside0.mk hq
      clear hq hf0
      go_wp2_with (first | (go_at_call 62; refine HT.out.mono ?_; rintro e w' ⟨v, rfl, hv, hr, hg⟩; obtain ⟨A1, c1, e1, _, hr1⟩ := R_C hv; cases e1; have hcs := Kd.C_string (c := c1) Tryd.underlying22 Tryd.underlying5 Tryd.underlying9 hr1; have HP4 := Aside0.mk (HP3.out.call hr HTL.out hg); have HP5 := Aside0.mk (HP4.out.set1 (strOfNums t)); have hf1 := HP4.out.frozen 1; have hc1 := HP4.out.cells.2.1))
      go_meet
      exact ⟨_, _, ⟨by unfold pSku; rw [h1, HQ2.out]; rfl⟩, HP5⟩
  case rest =>
    clear HP HP2 HP3 hf0 hc0
    obtain ⟨s, x2, HS, HP⟩ := hcut
    have hc0 := HP.out.cells.1
    go_upto_if 21 with (first | (go_at_call 90; refine (item_has _ k 2 (HG.out.keep HP.out.low HG.out.lt)).mono ?_; rintro e w' ⟨rfl, rfl⟩))
    go_cut [] (fun wx => ∃ (r : Int) (x : List Int × Int), Aside0 (pOrd k x2 = (r, x)) ∧ Aside0 (PSt w w.heap.size g k s r 0 (.slice none 0 0) x wx))
    case first =>
      cases h2 : iHas k 2
      · go_wp2_with fail
        go_meet
        exact ⟨_, _, ⟨by unfold pOrd; rw [h2]; rfl⟩, HP⟩
      · have HT := Aside0.mk (rd_Varint _ g _ _ HP.out.rd)
        have HTL := Aside0.mk (rVar_range _ x2.2 HP.out.rd.bytes)
        generalize hq : rVar x2.1 x2.2 = q at HT HTL
        obtain ⟨t, x3⟩ := q
        have HQ2 := Aside0.mk hq
        clear hq
        go_wp2_with (first | (go_at_call 59; refine HT.out.mono ?_; rintro e w' ⟨rfl, hr, hg⟩; have HP4 := Aside0.mk (HP.out.call hr HTL.out.2.2.2 hg)) | (go_at_call 102; refine (item_small _ t HTL.out.1).mono ?_; rintro e w2 ⟨rfl, rfl⟩; have HP5 := Aside0.mk (HP4.out.set2 (small t)); have hf1 := HP4.out.frozen 2; have hc1 := HP4.out.cells.2.2.1))
        go_meet
        exact ⟨_, _, ⟨by unfold pOrd; rw [h2, HQ2.out]; rfl⟩, HP5⟩
    case rest =>
      clear HP hc0
      obtain ⟨r, x3, HO, HP⟩ := hcut
      have hc0 := HP.out.cells.1
      go_upto_block 0 with fail
      go_cut [] (fun wx => ∃ (n : Int) (x : List Int × Int), Aside0 (pNum k x3 = (n, x)) ∧ Aside0 (PSt w w.heap.size g k s r n (.slice none 0 0) x wx))
      case first =>
        have HV := Aside0.mk (rd_Varint _ g _ _ HP.out.rd)
        have HI := Aside0.mk (rd_Int _ g _ _ HP.out.rd)
        have HTL := Aside0.mk (rVar_range _ x3.2 HP.out.rd.bytes)
        generalize hq : rVar x3.1 x3.2 = q at HV HI HTL
        obtain ⟨t, x4⟩ := q
        have HQ2 := Aside0.mk hq
        clear hq
        cases h8 : iHas k 8
        · cases h4 : iHas k 4
          · go_wp2_with (first | (go_at_call_of 90 (Value.int IntKind.i64 8); refine (item_has _ k 8 (HG.out.keep HP.out.low HG.out.lt)).mono ?_; rintro e w' ⟨rfl, rfl⟩) | (go_at_call_of 90 (Value.int IntKind.i64 4); refine (item_has _ k 4 (HG.out.keep HP.out.low HG.out.lt)).mono ?_; rintro e w' ⟨rfl, rfl⟩))
            go_meet
            exact ⟨_, _, ⟨by unfold pNum; rw [h8, h4]; rfl⟩, HP⟩
          · go_wp2_with (first | (go_at_call_of 90 (Value.int IntKind.i64 8); refine (item_has _ k 8 (HG.out.keep HP.out.low HG.out.lt)).mono ?_; rintro e w' ⟨rfl, rfl⟩) | (go_at_call_of 90 (Value.int IntKind.i64 4); refine (item_has _ k 4 (HG.out.keep HP.out.low HG.out.lt)).mono ?_; rintro e w' ⟨rfl, rfl⟩) | (go_at_call 59; refine HV.out.mono ?_; rintro e w' ⟨rfl, hr, hg⟩; have HP4 := Aside0.mk (HP.out.call hr HTL.out.2.2.2 hg)) | (go_at_call 102; refine (item_small _ t HTL.out.1).mono ?_; rintro e w2 ⟨rfl, rfl⟩; have HP5 := Aside0.mk (HP4.out.set3 (small t)); have hf1 := HP4.out.frozen 3; have hc1 := HP4.out.cells.2.2.2.1))
            go_meet
            exact ⟨_, _, ⟨by unfold pNum; rw [h8, h4, HQ2.out]; rfl⟩, HP5⟩
        · go_wp2_with (first | (go_at_call_of 90 (Value.int IntKind.i64 8); refine (item_has _ k 8 (HG.out.keep HP.out.low HG.out.lt)).mono ?_; rintro e w' ⟨rfl, rfl⟩) | (go_at_call 103; refine HI.out.mono ?_; rintro e w' ⟨rfl, hr, hg⟩; have HP4 := Aside0.mk (HP.out.call hr HTL.out.2.2.2 hg); have HP5 := Aside0.mk (HP4.out.set3 (zag t)); have hf1 := HP4.out.frozen 3; have hc1 := HP4.out.cells.2.2.2.1))
          go_meet
          exact ⟨_, _, ⟨by unfold pNum; rw [h8, HQ2.out]; rfl⟩, HP5⟩
      case rest =>
        clear HP hc0
        obtain ⟨n, x4, HN, HP⟩ := hcut
        have hc0 := HP.out.cells.1
        go_upto_if 43 with (first | (go_at_call 90; refine (item_has _ k 16 (HG.out.keep HP.out.low HG.out.lt)).mono ?_; rintro e w' ⟨rfl, rfl⟩))
        go_cut [] (fun wx => ∃ (ls : List Line) (v : Value) (x : List Int × Int), Aside0 (pLns k x4 = (ls, x)) ∧ Aside0 (PSt w w.heap.size g k s r n v x wx) ∧ Aside0 (Kd.R kLine 118 wx w.heap.size (fun j => j ≠ w.heap.size ∧ j ≠ g) v ls))
        case first =>
          cases h16 : iHas k 16
          · go_wp2_with fail
            go_meet
            exact ⟨_, _, _, ⟨by unfold pLns; rw [h16]; rfl⟩, HP, ⟨Kd.R_nil _ _ _ _ _⟩⟩
          · have HV := Aside0.mk (rd_Varint _ g _ _ HP.out.rd)
            have HTL := Aside0.mk (rVar_range _ x4.2 HP.out.rd.bytes)
            generalize hq : rVar x4.1 x4.2 = q at HV HTL
            obtain ⟨t, x5⟩ := q
            have HQ2 := Aside0.mk hq
            clear hq
            go_wp2_with (first | (go_at_call 59; refine HV.out.mono ?_; rintro e w' ⟨rfl, hr, hg⟩; have HP4 := Aside0.mk (HP.out.call hr HTL.out.2.2.2 hg); clear hr hg))
            have hM : min t 5 = ((min t.toNat 5 : Nat) : Int) := by have := HTL.out.1; omega
            rw [hM]
            have hM5 : min t.toNat 5 ≤ 5 := by omega
            have HPL : Aside0 (pLns k x4 = pIter (min t.toNat 5) x5) := ⟨by unfold pLns; rw [h16, HQ2.out]; rfl⟩
            generalize min t.toNat 5 = M at *
            clear hM HV HQ2 hc0 HP HTL
            have hwM : ∀ m : Nat, m ≤ M → IntKind.u64.wrap ((m : Int) + 1) = ((m + 1 : Nat) : Int) := fun m h => by rw [wrap_u64 _ (by omega) (by omega)]; omega
            have HWM := Aside0.mk hwM
            have HM5 := Aside0.mk hM5
            clear hwM hM5
            go_loopw [47] (fun y wr => ∃ (m : Nat) (ls : List Line) (v : Value) (x : List Int × Int), m ≤ M ∧ y = .int .u64 (m : Int) ∧ Aside0 (pIter m x5 = (ls, x)) ∧ Aside0 (ls.length = m) ∧ Aside0 (PSt w w.heap.size g k s r n v x wr) ∧ Aside0 (Kd.R kLine 118 wr w.heap.size (fun j => j ≠ w.heap.size ∧ j ≠ g) v ls)) (fun y _ => M - (intOf y).toNat)
            case atStart => exact ⟨0, [], _, x5, by omega, rfl, ⟨rfl⟩, ⟨rfl⟩, HP4, ⟨Kd.R_nil _ _ _ _ _⟩⟩
            case round =>
              clear HP4
              obtain ⟨m, ls, v4, x, hm, rfl, HIT, HLN, HP, HR⟩ := hrel
              by_cases hlt : m < M
              · have hb : decide ((m : Int) < (M : Int)) = true := by simp; omega
                have HTX := Aside0.mk (rd_Text _ g _ _ HP.out.rd HP.out.len)
                have HTL := Aside0.mk (rText_range _ x.2 HP.out.rd.bytes)
                have hpl : pLine x = (⟨strOfNums (rText x.1 x.2).1, small (rVar (rText x.1 x.2).2.1 (rText x.1 x.2).2.2).1⟩, (rVar (rText x.1 x.2).2.1 (rText x.1 x.2).2.2).2) := rfl
                generalize rText x.1 x.2 = q at HTX HTL hpl
                obtain ⟨tx, xa⟩ := q
                have HVL := Aside0.mk (rVar_range _ xa.2 HTL.out.2)
                have HVR := fun W h => rd_Varint W g xa.1 xa.2 h
                generalize rVar xa.1 xa.2 = q at HVL HVR hpl
                obtain ⟨u, xb⟩ := q
                have HPLN := Aside0.mk hpl
                clear hpl
                go_wp2_with (first | (go_at_call 62; refine HTX.out.mono ?_; rintro e wt ⟨vt, rfl, hv, hr, hg⟩; obtain ⟨A1, c1, e1, _, hr1⟩ := R_C hv; cases e1; have hcs := Kd.C_string (c := c1) Tryd.underlying22 Tryd.underlying5 Tryd.underlying9 hr1; have HPa := Aside0.mk (HP.out.call hr HTL.out.1 hg); have HRa := Aside0.mk (Kd.R_grown HR.out hg (fun j hj q => hj.2 (Option.some.inj q))); clear hv hr hg hr1))
                have hqg : wt.heap.size ≠ g := fun e => by have := HPa.out.lt.2; omega
                have hqb : wt.heap.size ≠ w.heap.size := fun e => by have := HPa.out.lt.1; omega
                have HQB := Aside0.mk hqb
                have HQG := Aside0.mk hqg
                have HBS := Aside0.mk HPa.out.low.size
                have HPb := Aside0.mk (HPa.out.below (below_alloc (Below.refl _ wt) (.cells #[.string (strOfNums tx), .int .i64 0] 118)))
                have HRb := Aside0.mk (Kd.R_alloc (Kd.R_elderB HRa.out wt.heap.size (Nat.le_refl _)) (.cells #[.string (strOfNums tx), .int .i64 0] 118))
                have HBq := Aside0.mk (blk_new wt (.cells #[.string (strOfNums tx), .int .i64 0] 118))
                clear HPa HRa hqg hqb hcs HTX HTL
                refine (HVR _ HPb.out.rd).mono ?_
                rintro en wv ⟨rfl, hr, hg⟩
                have HPc := Aside0.mk (HPb.out.call hr HVL.out.2.2.2 hg)
                have HRc := Aside0.mk (Kd.R_grown HRb.out hg (fun j hj q => hj.1.2 (Option.some.inj q)))
                have HBq2 := Aside0.mk (blk_grown HBq.out hg (fun q => HQG.out (Option.some.inj q)))
                have hcq0 : wv.cell? ⟨wt.heap.size, 0, none⟩ = some (.string (strOfNums tx)) := blk_cell HBq2.out 0
                have hcq1 : wv.cell? ⟨wt.heap.size, 1, none⟩ = some (.int .i64 0) := blk_cell HBq2.out 1
                have hfq1 := blk_frozen HBq2.out 1
                have HPd := Aside0.mk (HPc.out.other HBq2.out (by decide) HBS.out HQB.out HQG.out (grown_set (j := 1) (v := .int .i64 (small u)) (World.grownBy.refl wv _)))
                have HRd := Aside0.mk (Kd.R_mono (Kd.R_far (p := ⟨wt.heap.size, 1, none⟩) HRc.out (fun j hj => hj.2) (.int .i64 (small u))) (fun j hj => hj.1))
                have hc4 : wv.cell? ⟨w.heap.size, 4, none⟩ = some v4 := HPc.out.cells.2.2.2.2
                clear hr hg HBq HBq2 HPb HRb HRc HPc HVR
                obtain ⟨p, hp⟩ : ∃ p : Line, p = ⟨strOfNums tx, small u⟩ := ⟨_, rfl⟩
                have HPP := Aside0.mk hp
                clear hp
                go_wp2_with (first | (go_at_call 102; refine (item_small _ u HVL.out.1).mono ?_; rintro e w2 ⟨rfl, rfl⟩) | ((with_reducible refine gate_builtin (b := .append) (xs := #[.tmp 58, .tmp 60]) rfl ?_); at_builtin; refine Kd.R_append kLine (w0 := w) w.heap.size rfl (.tmp 58) (.tmp 60) 34 118 (.agg #[(.string ⟨#[]⟩), (.int .i64 0)]) 24 rfl Tryd.underlying34 infoLine rfl (by decide) (by omega) v4 ls (⟨strOfNums tx, small u⟩ : Line) [.string (strOfNums tx), .int .i64 (small u)] (fun j => j ≠ w.heap.size ∧ j ≠ g) (fun _ => False) rfl ?aX ?aP (fun _ hk => hk.elim) ?aF ?aO ?aB ?aS ?aL ?_; (case aX => (simp only [World.size_setCell]; rfl)); (case aP => exact k118_mkM _ _ _ (⟨strOfNums tx, small u⟩ : Line)); (case aB => exact HPd.out.low); (case aF => exact (fun j hj => ⟨fun e => by have := HPd.out.lt.1; omega, fun e => by have := HPd.out.lt.2; omega⟩)); (case aO => exact HRd.out); (case aS => exact HPd.out.low.size); (case aL => (have h1 := HLN.out; have h2 := HM5.out; omega)); intro v7 w7 hv hw hg7 hat7; obtain ⟨A7, c7, e7⟩ := Kd.R_slice hv; rw [List.length_append, List.length_singleton] at e7; subst e7; have HP7 := Aside0.mk (HPd.out.app HRd.out (fun j hj => hj) (by decide) hg7); have HP8 := Aside0.mk (HP7.out.set4 (.slice A7 (ls.length + 1) c7)); have HR8 := Aside0.mk (Kd.R_far (p := ⟨w.heap.size, 4, none⟩) hv (fun j hj => hj.1) (.slice A7 (ls.length + 1) c7)); have hc7 := HP7.out.cells.2.2.2.2; have hf7 := HP7.out.frozen 4; clear hv hw hg7 hat7))
                go_roundw
                case rel => exact ⟨m + 1, _, _, _, by omega, by rw [HWM.out m (by omega)], ⟨pIter_snoc HIT.out HPLN.out⟩, ⟨by have h := HLN.out; simp; omega⟩, HP8, HR8⟩
                case measure =>
                  rw [HWM.out m (by omega)]
                  simp only [intOf]
                  omega
              · have hb : decide ((m : Int) < (M : Int)) = false := by simp; omega
                obtain rfl : m = M := by omega
                go_wp2_with fail
                go_meet
                exact ⟨_, _, _, ⟨HPL.out.trans HIT.out⟩, HP, HR⟩
        case rest =>
          clear HP hc0
          obtain ⟨ls, v4, x5, HLS, HP, HR⟩ := hcut
          obtain ⟨hc0, hc1, hc2, hc3, hc4⟩ := HP.out.cells
          have hf := HP.out.frozen
          have hf0 := hf 0
          have hf1 := hf 1
          have hf2 := hf 2
          have hf3 := hf 3
          have hf4 := hf 4
          clear hf
          have hp0 : pOp0 l = (⟨k, s, r, n, ls⟩, x5) := by
            unfold pOp0
            simp only [HQ.out, HS.out, HO.out, HN.out, HLS.out]
          have hp : pOp l = if x5.2 ≠ 0 then (zOp, x5.2) else if rEnd x5.1 x5.2 ≠ 0 then (zOp, 4) else if opE (⟨k, s, r, n, ls⟩ : Opn) ≠ 0 then (zOp, 4) else (⟨k, s, r, n, ls⟩, 0) := by
            unfold pOp
            rw [hp0]
          obtain ⟨y, e⟩ := x5
          simp only at hp
          clear hp0
          by_cases he : e = 0
          · subst he
            rw [if_neg (by simp)] at hp
            by_cases hy : 0 < y.length
            · have hend : rEnd y 0 = 4 := by unfold rEnd; rw [if_pos ⟨rfl, hy⟩]
              rw [hend, if_pos (by decide)] at hp
              have HEND := rd_End wc g y 0 HP.out.rd
              rw [hend] at HEND
              have HPO := Aside0.mk hp
              clear hp hy hend
              go_wp2_with (first | (go_at_call 54; refine (rd_Err _ g _ _ HP.out.rd).mono ?_; rintro e w' ⟨rfl, rfl⟩) | (go_at_call 63; refine HEND.mono ?_; rintro e w' ⟨rfl, rfl⟩))
              have hPz := ((((HP.out.set0 0).set1 ⟨#[]⟩).set2 0).set3 0).set4 (.slice none 0 0)
              refine bodyPost_ret (ret_op hPz rfl rfl) rfl ⟨.slice none 0 0, ?_, ?_, hPz.low⟩
              · rw [HPO.out]; rfl
              · rw [HPO.out]; exact Kd.R_nil _ _ _ _ _
            · have hend : rEnd y 0 = 0 := by unfold rEnd; rw [if_neg (fun h => hy h.2)]
              rw [hend, if_neg (by simp)] at hp
              have HEND := rd_End wc g y 0 HP.out.rd
              rw [hend] at HEND
              obtain ⟨A4, c4, e4, hcc4, hr4⟩ := R_C HR.out
              cases e4
              have HCK := item_Check wc A4 c4 ⟨k, s, r, n, ls⟩ (HG.out.keep HP.out.low HG.out.lt) hr4 hcc4
              have hE : opE (⟨k, s, r, n, ls⟩ : Opn) = if opOk (⟨k, s, r, n, ls⟩ : Opn) then 0 else 2 := rfl
              cases hok : opOk (⟨k, s, r, n, ls⟩ : Opn)
              · rw [hok] at hE
                simp only [Bool.false_eq_true, if_false] at hE
                rw [hE, if_pos (by decide)] at hp
                rw [hE] at HCK
                have HPO := Aside0.mk hp
                clear hp hy hend hE hok hcc4 hr4
                go_wp2_with (first | (go_at_call 54; refine (rd_Err _ g _ _ HP.out.rd).mono ?_; rintro e w' ⟨rfl, rfl⟩) | (go_at_call 63; refine HEND.mono ?_; rintro e w' ⟨rfl, rfl⟩) | (go_at_call 81; refine HCK.mono ?_; rintro e w' ⟨rfl, hb⟩; have HP2 := Aside0.mk (HP.out.below hb); obtain ⟨gc0, gc1, gc2, gc3, gc4⟩ := HP2.out.cells; have gf := HP2.out.frozen; have gf0 := gf 0; have gf1 := gf 1; have gf2 := gf 2; have gf3 := gf 3; have gf4 := gf 4; clear gf))
                have hPz := ((((HP2.out.set0 0).set1 ⟨#[]⟩).set2 0).set3 0).set4 (.slice none 0 0)
                refine bodyPost_ret (ret_op hPz rfl rfl) rfl ⟨.slice none 0 0, ?_, ?_, hPz.low⟩
                · rw [HPO.out]; rfl
                · rw [HPO.out]; exact Kd.R_nil _ _ _ _ _
              · rw [hok] at hE
                simp only [if_true] at hE
                rw [hE, if_neg (by simp)] at hp
                rw [hE] at HCK
                have HPO := Aside0.mk hp
                clear hp hy hend hE hok hcc4 hr4
                go_wp2_with (first | (go_at_call 54; refine (rd_Err _ g _ _ HP.out.rd).mono ?_; rintro e w' ⟨rfl, rfl⟩) | (go_at_call 63; refine HEND.mono ?_; rintro e w' ⟨rfl, rfl⟩) | (go_at_call 81; refine HCK.mono ?_; rintro e w' ⟨rfl, hb⟩; have HP2 := Aside0.mk (HP.out.below hb); have HR2 := Aside0.mk (Kd.R_below HR.out hb); obtain ⟨gc0, gc1, gc2, gc3, gc4⟩ := HP2.out.cells; have gf := HP2.out.frozen; have gf0 := gf 0; have gf1 := gf 1; have gf2 := gf 2; have gf3 := gf 3; have gf4 := gf 4; clear gf))
                have hPz := ((((HP2.out.set0 k).set1 s).set2 r).set3 n).set4 (.slice A4 ls.length c4)
                refine bodyPost_ret (ret_op hPz rfl rfl) rfl ⟨.slice A4 ls.length c4, ?_, ?_, hPz.low⟩
                · rw [HPO.out]
                · rw [HPO.out]
                  exact Kd.R_mono (Kd.R_far (Kd.R_far (Kd.R_far (Kd.R_far (Kd.R_far HR2.out (p := ⟨w.heap.size, 0, none⟩) (fun j hj => hj.1) _) (p := ⟨w.heap.size, 1, none⟩) (fun j hj => hj.1) _) (p := ⟨w.heap.size, 2, none⟩) (fun j hj => hj.1) _) (p := ⟨w.heap.size, 3, none⟩) (fun j hj => hj.1) _) (p := ⟨w.heap.size, 4, none⟩) (fun j hj => hj.1) _) (fun _ _ => trivial)
          · rw [if_pos he] at hp
            have hz : (e != 0) = true := by rw [bne_iff_ne]; exact he
            have HPO := Aside0.mk hp
            clear hp he
            go_wp2_with (first | (go_at_call 54; refine (rd_Err _ g _ _ HP.out.rd).mono ?_; rintro e w' ⟨rfl, rfl⟩))
            have hPz := ((((HP.out.set0 0).set1 ⟨#[]⟩).set2 0).set3 0).set4 (.slice none 0 0)
            refine bodyPost_ret (ret_op hPz rfl rfl) rfl ⟨.slice none 0 0, ?_, ?_, hPz.low⟩
            · rw [HPO.out]; rfl
            · rw [HPO.out]; exact Kd.R_nil _ _ _ _ _
end Go.Proofs.YtmeblifbkhpdnaaDoor.K
