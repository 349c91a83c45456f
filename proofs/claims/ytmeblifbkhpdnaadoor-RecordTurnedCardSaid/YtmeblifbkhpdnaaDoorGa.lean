/- The kinds of values of this seat's laws, and words that all texts behind this one use. No conditions. -/
import Derived.Test.YtmeblifbkhpdnaaDoorProg
import Derived.Below
import Derived.Deep.Draws
import Derived.Deep.AppendLies
import Derived.Maps.AppendAt
import Derived.OwnWalk
import Derived.Laws.BytesArg
import Derived.Laws.MakeOwn
import Derived.Laws.OwnMore
import Derived.Deep.OwnRows
import Derived.Tactics
import Derived.Lib.ConvBytes
import Derived.Laws.Slices
import Derived.WalkKit
import Derived.KernelRfl
import Derived.RowKit3
import Derived.Deep.LoopGhost
import Derived.Deep.QuietTactic
import Derived.BigQuiet
import Derived.WideLaws
import Derived.Deep.DeepCutAuto
import Derived.Deep.CutBlock
import Derived.Deep.RegionHeld3
import Derived.Laws.Rows
import Derived.Lib.AppendStr
import Derived.ArgAppend
import Derived.Laws.IdiomCopy
import Derived.OrdersHeld
import Derived.Laws.BitsLemmas
import Derived.RowKit
import Derived.Test.YtmeblifbkhpdnaaDoorWWords
import Derived.Test.YtmeblifbkhpdnaaDoorWLast
import Derived.Test.YtmeblifbkhpdnaaDoorWTab
import Derived.Test.YtmeblifbkhpdnaaDoorWFour
import Derived.Test.YtmeblifbkhpdnaaDoorWQPut
import Derived.Test.YtmeblifbkhpdnaaDoorWApart
import Derived.Test.YtmeblifbkhpdnaaDoorWArr
import Derived.Test.YtmeblifbkhpdnaaDoorWZeros
import Derived.Test.YtmeblifbkhpdnaaDoorWFoot
import Derived.Test.YtmeblifbkhpdnaaDoorWKept
import Derived.Test.YtmeblifbkhpdnaaDoorWShare
import Derived.Test.YtmeblifbkhpdnaaDoorWN
import Derived.Test.YtmeblifbkhpdnaaDoorWFootNe
import Derived.Test.YtmeblifbkhpdnaaDoorWAt
import Derived.Test.YtmeblifbkhpdnaaDoorWEqStruct
import Derived.Test.YtmeblifbkhpdnaaDoorWRepsOne
import Derived.Test.YtmeblifbkhpdnaaDoorWInv
import Derived.Test.YtmeblifbkhpdnaaDoorWInvWords
import Derived.Test.YtmeblifbkhpdnaaDoorWGuard
import Derived.Test.YtmeblifbkhpdnaaDoorWNEv
import Derived.Test.YtmeblifbkhpdnaaDoorWMore
import Derived.Lib.LazyBuf
import Derived.Laws.Tables
import Derived.Laws.CopyOwn
import Derived.Lib.SlBytesConst
import Derived.Lib.SmallJoins
import Derived.RegionTactic
import Derived.BigRegion
import Derived.WalkSpells
import Derived.Test.YtmeblifbkhpdnaaDoorCrcMath
namespace Go.Proofs.YtmeblifbkhpdnaaDoor.K
set_option linter.unusedVariables false
set_option linter.unusedSimpArgs false
open Go.RowKit Go.Proofs.YtmeblifbkhpdnaaDoorW.PrintWords Go.Proofs.YtmeblifbkhpdnaaDoorW.PrintLast Go.Proofs.YtmeblifbkhpdnaaDoorW.PrintMore
def errW : Option Int → Value
  | none => .nilIface
  | some c => .iface 0 (.int .i64 c)
theorem errW_none : errW none = .nilIface := rfl
theorem errW_some (c : Int) : errW (some c) = .iface 0 (.int .i64 c) := rfl

theorem info5 : (Tryd.prog.info? 5).map (fun i => (i.zero, i.size, i.bytes)) = some (some (.int .u8 0), 1, 1) := by kernel_rfl
-- the values' own types
/-! #### struct type 118 -/
structure S118 where
  f0 : ByteArray
  f1 : Int
def z118 : S118 := ⟨(⟨#[]⟩ : ByteArray), (0 : Int)⟩
def k118 : Kd S118 := Kd.iso (Kd.pair Kd.string (Kd.int .i64)) (fun x : S118 => (x.f0, x.f1))
theorem k118_open {w : World} {x : S118} {cs : List Value} (h : k118.K w x cs) : cs = [.string x.f0, .int .i64 x.f1] := by
  obtain ⟨_, _, rfl, rfl, rfl⟩ := h
  exact rfl
theorem k118_openM {w : World} {base : Nat} {ok : Nat → Prop} {x : S118} {cs : List Value} (h : k118.M w base ok x cs) : cs = [.string x.f0, .int .i64 x.f1] := by
  obtain ⟨_, _, rfl, rfl, rfl⟩ := h
  exact rfl
theorem k118_mk (w : World) (x : S118)  : k118.K w x [.string x.f0, .int .i64 x.f1] := ⟨[.string x.f0], [.int .i64 x.f1], rfl, rfl, rfl⟩
theorem k118_mkM (w : World) (base : Nat) (ok : Nat → Prop) (x : S118)  : k118.M w base ok x [.string x.f0, .int .i64 x.f1] := ⟨[.string x.f0], [.int .i64 x.f1], rfl, rfl, rfl⟩
def rd_T118 (xs : List S118) (i : Int) : S118 := xs.getD i.toNat z118
theorem at_T118 {w : World} {A : Option Addr} {n : Nat} {xs : List S118} (h : Kd.C k118 w A n xs) (i : Int) (h0 : 0 ≤ i) (h1 : i < n) : ∃ ad , A = some ad ∧ w.cell? (ad.add (i.toNat * 2)) = some (.string (rd_T118 xs i).f0) ∧ w.cell? ⟨(ad.add (i.toNat * 2)).block, (ad.add (i.toNat * 2)).off + 1, none⟩ = some (.int .i64 (rd_T118 xs i).f1) := by
  obtain ⟨ad, c, e, _, hK, hc0⟩ := Kd.C_get h z118 i h0 h1
  have hc : ∀ j u, c[j]? = some u → w.cell? (ad.add (i.toNat * 2 + j)) = some u := hc0
  obtain rfl := k118_open hK
  exact ⟨ad, e, hc 0 _ rfl, by rw [← add_field _ _ 1 (by omega)]; exact hc 1 _ rfl⟩

def rd_L4 (xs : List (List S118)) (i : Int) : (List S118) := xs.getD i.toNat ([] : List S118)
theorem at_L4 {w : World} {A : Option Addr} {n : Nat} {xs : List (List S118)} (h : Kd.C (Kd.slice 118 k118) w A n xs) (i : Int) (h0 : 0 ≤ i) (h1 : i < n) : ∃ ad A0 c0, A = some ad ∧ w.cell? (ad.add i.toNat) = some (.slice A0 (rd_L4 xs i).length c0) ∧ (rd_L4 xs i).length ≤ c0 ∧ k118.C w A0 (rd_L4 xs i).length (rd_L4 xs i) := by
  obtain ⟨ad, c, e, _, hK, hc0⟩ := Kd.C_get h ([] : List S118) i h0 h1
  have hc : ∀ j u, c[j]? = some u → w.cell? (ad.add (i.toNat * 1 + j)) = some u := hc0
  obtain ⟨A0, c0, rfl, l0, g0⟩ := hK
  exact ⟨ad, A0, c0, e, by have hq := hc 0 _ rfl; rwa [Nat.mul_one, Nat.add_zero] at hq, l0, g0⟩

/-! #### struct type 36 -/
structure S36 where
  f0 : Int
  f1 : ByteArray
  f2 : Int
  f3 : Int
  f4 : (List S118)
def z36 : S36 := ⟨(0 : Int), (⟨#[]⟩ : ByteArray), (0 : Int), (0 : Int), ([] : List S118)⟩
def k36 : Kd S36 := Kd.iso (Kd.pair (Kd.int .i64) (Kd.pair Kd.string (Kd.pair (Kd.int .i64) (Kd.pair (Kd.int .i64) (Kd.slice 118 k118))))) (fun x : S36 => (x.f0, x.f1, x.f2, x.f3, x.f4))
theorem k36_open {w : World} {x : S36} {cs : List Value} (h : k36.K w x cs) : ∃ A4 c4, cs = [.int .i64 x.f0, .string x.f1, .int .i64 x.f2, .int .i64 x.f3, .slice A4 x.f4.length c4] ∧ x.f4.length ≤ c4 ∧ k118.C w A4 x.f4.length x.f4 := by
  obtain ⟨_, _, rfl, rfl, ⟨_, _, rfl, rfl, ⟨_, _, rfl, rfl, ⟨_, _, rfl, rfl, ⟨A4, c4, rfl, l4, g4⟩⟩⟩⟩⟩ := h
  exact ⟨A4, c4, rfl, l4, g4⟩
theorem k36_openM {w : World} {base : Nat} {ok : Nat → Prop} {x : S36} {cs : List Value} (h : k36.M w base ok x cs) : ∃ v4, cs = [.int .i64 x.f0, .string x.f1, .int .i64 x.f2, .int .i64 x.f3, v4] ∧ k118.R 118 w base ok v4 x.f4 := by
  obtain ⟨_, _, rfl, rfl, ⟨_, _, rfl, rfl, ⟨_, _, rfl, rfl, ⟨_, _, rfl, rfl, ⟨v4, rfl, g4⟩⟩⟩⟩⟩ := h
  exact ⟨v4, rfl, g4⟩
theorem k36_mk (w : World) (x : S36) {A4 : Option Addr} {c4 : Nat} (l4 : x.f4.length ≤ c4) (g4 : k118.C w A4 x.f4.length x.f4) : k36.K w x [.int .i64 x.f0, .string x.f1, .int .i64 x.f2, .int .i64 x.f3, .slice A4 x.f4.length c4] := ⟨[.int .i64 x.f0], [.string x.f1, .int .i64 x.f2, .int .i64 x.f3, .slice A4 x.f4.length c4], rfl, rfl, ⟨[.string x.f1], [.int .i64 x.f2, .int .i64 x.f3, .slice A4 x.f4.length c4], rfl, rfl, ⟨[.int .i64 x.f2], [.int .i64 x.f3, .slice A4 x.f4.length c4], rfl, rfl, ⟨[.int .i64 x.f3], [.slice A4 x.f4.length c4], rfl, rfl, ⟨A4, c4, rfl, l4, g4⟩⟩⟩⟩⟩
theorem k36_mkM (w : World) (base : Nat) (ok : Nat → Prop) (x : S36) {v4 : Value} (g4 : k118.R 118 w base ok v4 x.f4) : k36.M w base ok x [.int .i64 x.f0, .string x.f1, .int .i64 x.f2, .int .i64 x.f3, v4] := ⟨[.int .i64 x.f0], [.string x.f1, .int .i64 x.f2, .int .i64 x.f3, v4], rfl, rfl, ⟨[.string x.f1], [.int .i64 x.f2, .int .i64 x.f3, v4], rfl, rfl, ⟨[.int .i64 x.f2], [.int .i64 x.f3, v4], rfl, rfl, ⟨[.int .i64 x.f3], [v4], rfl, rfl, ⟨v4, rfl, g4⟩⟩⟩⟩⟩
def rd_T36 (xs : List S36) (i : Int) : S36 := xs.getD i.toNat z36
theorem at_T36 {w : World} {A : Option Addr} {n : Nat} {xs : List S36} (h : Kd.C k36 w A n xs) (i : Int) (h0 : 0 ≤ i) (h1 : i < n) : ∃ ad A4 c4, A = some ad ∧ w.cell? (ad.add (i.toNat * 5)) = some (.int .i64 (rd_T36 xs i).f0) ∧ w.cell? ⟨(ad.add (i.toNat * 5)).block, (ad.add (i.toNat * 5)).off + 1, none⟩ = some (.string (rd_T36 xs i).f1) ∧ w.cell? ⟨(ad.add (i.toNat * 5)).block, (ad.add (i.toNat * 5)).off + 2, none⟩ = some (.int .i64 (rd_T36 xs i).f2) ∧ w.cell? ⟨(ad.add (i.toNat * 5)).block, (ad.add (i.toNat * 5)).off + 3, none⟩ = some (.int .i64 (rd_T36 xs i).f3) ∧ w.cell? ⟨(ad.add (i.toNat * 5)).block, (ad.add (i.toNat * 5)).off + 4, none⟩ = some (.slice A4 (rd_T36 xs i).f4.length c4) ∧ (rd_T36 xs i).f4.length ≤ c4 ∧ k118.C w A4 (rd_T36 xs i).f4.length (rd_T36 xs i).f4 := by
  obtain ⟨ad, c, e, _, hK, hc0⟩ := Kd.C_get h z36 i h0 h1
  have hc : ∀ j u, c[j]? = some u → w.cell? (ad.add (i.toNat * 5 + j)) = some u := hc0
  obtain ⟨A4, c4, rfl, l4, g4⟩ := k36_open hK
  exact ⟨ad, A4, c4, e, hc 0 _ rfl, by rw [← add_field _ _ 1 (by omega)]; exact hc 1 _ rfl, by rw [← add_field _ _ 2 (by omega)]; exact hc 2 _ rfl, by rw [← add_field _ _ 3 (by omega)]; exact hc 3 _ rfl, by rw [← add_field _ _ 4 (by omega)]; exact hc 4 _ rfl, l4, g4⟩

/-! #### struct type 38 -/
structure S38 where
  f0 : Int
  f1 : Int
  f2 : S36
def z38 : S38 := ⟨(0 : Int), (0 : Int), z36⟩
def k38 : Kd S38 := Kd.iso (Kd.pair (Kd.int .i64) (Kd.pair (Kd.int .i64) k36)) (fun x : S38 => (x.f0, x.f1, x.f2))
theorem k38_open {w : World} {x : S38} {cs : List Value} (h : k38.K w x cs) : ∃ A6 c6, cs = [.int .i64 x.f0, .int .i64 x.f1, .int .i64 x.f2.f0, .string x.f2.f1, .int .i64 x.f2.f2, .int .i64 x.f2.f3, .slice A6 x.f2.f4.length c6] ∧ x.f2.f4.length ≤ c6 ∧ k118.C w A6 x.f2.f4.length x.f2.f4 := by
  obtain ⟨_, _, rfl, rfl, ⟨_, _, rfl, rfl, s2⟩⟩ := h
  obtain ⟨A6, c6, rfl, l6, g6⟩ := k36_open s2
  exact ⟨A6, c6, rfl, l6, g6⟩
theorem k38_openM {w : World} {base : Nat} {ok : Nat → Prop} {x : S38} {cs : List Value} (h : k38.M w base ok x cs) : ∃ v6, cs = [.int .i64 x.f0, .int .i64 x.f1, .int .i64 x.f2.f0, .string x.f2.f1, .int .i64 x.f2.f2, .int .i64 x.f2.f3, v6] ∧ k118.R 118 w base ok v6 x.f2.f4 := by
  obtain ⟨_, _, rfl, rfl, ⟨_, _, rfl, rfl, s2⟩⟩ := h
  obtain ⟨v6, rfl, g6⟩ := k36_openM s2
  exact ⟨v6, rfl, g6⟩
theorem k38_mk (w : World) (x : S38) {A6 : Option Addr} {c6 : Nat} (l6 : x.f2.f4.length ≤ c6) (g6 : k118.C w A6 x.f2.f4.length x.f2.f4) : k38.K w x [.int .i64 x.f0, .int .i64 x.f1, .int .i64 x.f2.f0, .string x.f2.f1, .int .i64 x.f2.f2, .int .i64 x.f2.f3, .slice A6 x.f2.f4.length c6] := ⟨[.int .i64 x.f0], [.int .i64 x.f1, .int .i64 x.f2.f0, .string x.f2.f1, .int .i64 x.f2.f2, .int .i64 x.f2.f3, .slice A6 x.f2.f4.length c6], rfl, rfl, ⟨[.int .i64 x.f1], [.int .i64 x.f2.f0, .string x.f2.f1, .int .i64 x.f2.f2, .int .i64 x.f2.f3, .slice A6 x.f2.f4.length c6], rfl, rfl, (k36_mk w x.f2 l6 g6)⟩⟩
theorem k38_mkM (w : World) (base : Nat) (ok : Nat → Prop) (x : S38) {v6 : Value} (g6 : k118.R 118 w base ok v6 x.f2.f4) : k38.M w base ok x [.int .i64 x.f0, .int .i64 x.f1, .int .i64 x.f2.f0, .string x.f2.f1, .int .i64 x.f2.f2, .int .i64 x.f2.f3, v6] := ⟨[.int .i64 x.f0], [.int .i64 x.f1, .int .i64 x.f2.f0, .string x.f2.f1, .int .i64 x.f2.f2, .int .i64 x.f2.f3, v6], rfl, rfl, ⟨[.int .i64 x.f1], [.int .i64 x.f2.f0, .string x.f2.f1, .int .i64 x.f2.f2, .int .i64 x.f2.f3, v6], rfl, rfl, (k36_mkM w base ok x.f2 g6)⟩⟩
def rd_T38 (xs : List S38) (i : Int) : S38 := xs.getD i.toNat z38
theorem at_T38 {w : World} {A : Option Addr} {n : Nat} {xs : List S38} (h : Kd.C k38 w A n xs) (i : Int) (h0 : 0 ≤ i) (h1 : i < n) : ∃ ad A6 c6, A = some ad ∧ w.cell? (ad.add (i.toNat * 7)) = some (.int .i64 (rd_T38 xs i).f0) ∧ w.cell? ⟨(ad.add (i.toNat * 7)).block, (ad.add (i.toNat * 7)).off + 1, none⟩ = some (.int .i64 (rd_T38 xs i).f1) ∧ w.cell? ⟨(ad.add (i.toNat * 7)).block, (ad.add (i.toNat * 7)).off + 2, none⟩ = some (.int .i64 (rd_T38 xs i).f2.f0) ∧ w.cell? ⟨(ad.add (i.toNat * 7)).block, (ad.add (i.toNat * 7)).off + 3, none⟩ = some (.string (rd_T38 xs i).f2.f1) ∧ w.cell? ⟨(ad.add (i.toNat * 7)).block, (ad.add (i.toNat * 7)).off + 4, none⟩ = some (.int .i64 (rd_T38 xs i).f2.f2) ∧ w.cell? ⟨(ad.add (i.toNat * 7)).block, (ad.add (i.toNat * 7)).off + 5, none⟩ = some (.int .i64 (rd_T38 xs i).f2.f3) ∧ w.cell? ⟨(ad.add (i.toNat * 7)).block, (ad.add (i.toNat * 7)).off + 6, none⟩ = some (.slice A6 (rd_T38 xs i).f2.f4.length c6) ∧ (rd_T38 xs i).f2.f4.length ≤ c6 ∧ k118.C w A6 (rd_T38 xs i).f2.f4.length (rd_T38 xs i).f2.f4 := by
  obtain ⟨ad, c, e, _, hK, hc0⟩ := Kd.C_get h z38 i h0 h1
  have hc : ∀ j u, c[j]? = some u → w.cell? (ad.add (i.toNat * 7 + j)) = some u := hc0
  obtain ⟨A6, c6, rfl, l6, g6⟩ := k38_open hK
  exact ⟨ad, A6, c6, e, hc 0 _ rfl, by rw [← add_field _ _ 1 (by omega)]; exact hc 1 _ rfl, by rw [← add_field _ _ 2 (by omega)]; exact hc 2 _ rfl, by rw [← add_field _ _ 3 (by omega)]; exact hc 3 _ rfl, by rw [← add_field _ _ 4 (by omega)]; exact hc 4 _ rfl, by rw [← add_field _ _ 5 (by omega)]; exact hc 5 _ rfl, by rw [← add_field _ _ 6 (by omega)]; exact hc 6 _ rfl, l6, g6⟩

def rd_L7 (xs : List (List S38)) (i : Int) : (List S38) := xs.getD i.toNat ([] : List S38)
theorem at_L7 {w : World} {A : Option Addr} {n : Nat} {xs : List (List S38)} (h : Kd.C (Kd.slice 38 k38) w A n xs) (i : Int) (h0 : 0 ≤ i) (h1 : i < n) : ∃ ad A0 c0, A = some ad ∧ w.cell? (ad.add i.toNat) = some (.slice A0 (rd_L7 xs i).length c0) ∧ (rd_L7 xs i).length ≤ c0 ∧ k38.C w A0 (rd_L7 xs i).length (rd_L7 xs i) := by
  obtain ⟨ad, c, e, _, hK, hc0⟩ := Kd.C_get h ([] : List S38) i h0 h1
  have hc : ∀ j u, c[j]? = some u → w.cell? (ad.add (i.toNat * 1 + j)) = some u := hc0
  obtain ⟨A0, c0, rfl, l0, g0⟩ := hK
  exact ⟨ad, A0, c0, e, by have hq := hc 0 _ rfl; rwa [Nat.mul_one, Nat.add_zero] at hq, l0, g0⟩

/-! #### struct type 41 -/
structure S41 where
  f0 : Int
  f1 : Int
  f2 : Int
  f3 : Int
  f4 : S38
  f5 : (List S38)
def z41 : S41 := ⟨(0 : Int), (0 : Int), (0 : Int), (0 : Int), z38, ([] : List S38)⟩
def k41 : Kd S41 := Kd.iso (Kd.pair (Kd.int .i64) (Kd.pair (Kd.int .i64) (Kd.pair (Kd.int .i64) (Kd.pair (Kd.int .i64) (Kd.pair k38 (Kd.slice 38 k38)))))) (fun x : S41 => (x.f0, x.f1, x.f2, x.f3, x.f4, x.f5))
theorem k41_open {w : World} {x : S41} {cs : List Value} (h : k41.K w x cs) : ∃ A10 c10 A11 c11, cs = [.int .i64 x.f0, .int .i64 x.f1, .int .i64 x.f2, .int .i64 x.f3, .int .i64 x.f4.f0, .int .i64 x.f4.f1, .int .i64 x.f4.f2.f0, .string x.f4.f2.f1, .int .i64 x.f4.f2.f2, .int .i64 x.f4.f2.f3, .slice A10 x.f4.f2.f4.length c10, .slice A11 x.f5.length c11] ∧ x.f4.f2.f4.length ≤ c10 ∧ k118.C w A10 x.f4.f2.f4.length x.f4.f2.f4 ∧ x.f5.length ≤ c11 ∧ k38.C w A11 x.f5.length x.f5 := by
  obtain ⟨_, _, rfl, rfl, ⟨_, _, rfl, rfl, ⟨_, _, rfl, rfl, ⟨_, _, rfl, rfl, ⟨_, _, rfl, s4, ⟨A11, c11, rfl, l11, g11⟩⟩⟩⟩⟩⟩ := h
  obtain ⟨A10, c10, rfl, l10, g10⟩ := k38_open s4
  exact ⟨A10, c10, A11, c11, rfl, l10, g10, l11, g11⟩
theorem k41_openM {w : World} {base : Nat} {ok : Nat → Prop} {x : S41} {cs : List Value} (h : k41.M w base ok x cs) : ∃ v10 v11, cs = [.int .i64 x.f0, .int .i64 x.f1, .int .i64 x.f2, .int .i64 x.f3, .int .i64 x.f4.f0, .int .i64 x.f4.f1, .int .i64 x.f4.f2.f0, .string x.f4.f2.f1, .int .i64 x.f4.f2.f2, .int .i64 x.f4.f2.f3, v10, v11] ∧ k118.R 118 w base ok v10 x.f4.f2.f4 ∧ k38.R 38 w base ok v11 x.f5 := by
  obtain ⟨_, _, rfl, rfl, ⟨_, _, rfl, rfl, ⟨_, _, rfl, rfl, ⟨_, _, rfl, rfl, ⟨_, _, rfl, s4, ⟨v11, rfl, g11⟩⟩⟩⟩⟩⟩ := h
  obtain ⟨v10, rfl, g10⟩ := k38_openM s4
  exact ⟨v10, v11, rfl, g10, g11⟩
theorem k41_mk (w : World) (x : S41) {A10 : Option Addr} {c10 : Nat} (l10 : x.f4.f2.f4.length ≤ c10) (g10 : k118.C w A10 x.f4.f2.f4.length x.f4.f2.f4) {A11 : Option Addr} {c11 : Nat} (l11 : x.f5.length ≤ c11) (g11 : k38.C w A11 x.f5.length x.f5) : k41.K w x [.int .i64 x.f0, .int .i64 x.f1, .int .i64 x.f2, .int .i64 x.f3, .int .i64 x.f4.f0, .int .i64 x.f4.f1, .int .i64 x.f4.f2.f0, .string x.f4.f2.f1, .int .i64 x.f4.f2.f2, .int .i64 x.f4.f2.f3, .slice A10 x.f4.f2.f4.length c10, .slice A11 x.f5.length c11] := ⟨[.int .i64 x.f0], [.int .i64 x.f1, .int .i64 x.f2, .int .i64 x.f3, .int .i64 x.f4.f0, .int .i64 x.f4.f1, .int .i64 x.f4.f2.f0, .string x.f4.f2.f1, .int .i64 x.f4.f2.f2, .int .i64 x.f4.f2.f3, .slice A10 x.f4.f2.f4.length c10, .slice A11 x.f5.length c11], rfl, rfl, ⟨[.int .i64 x.f1], [.int .i64 x.f2, .int .i64 x.f3, .int .i64 x.f4.f0, .int .i64 x.f4.f1, .int .i64 x.f4.f2.f0, .string x.f4.f2.f1, .int .i64 x.f4.f2.f2, .int .i64 x.f4.f2.f3, .slice A10 x.f4.f2.f4.length c10, .slice A11 x.f5.length c11], rfl, rfl, ⟨[.int .i64 x.f2], [.int .i64 x.f3, .int .i64 x.f4.f0, .int .i64 x.f4.f1, .int .i64 x.f4.f2.f0, .string x.f4.f2.f1, .int .i64 x.f4.f2.f2, .int .i64 x.f4.f2.f3, .slice A10 x.f4.f2.f4.length c10, .slice A11 x.f5.length c11], rfl, rfl, ⟨[.int .i64 x.f3], [.int .i64 x.f4.f0, .int .i64 x.f4.f1, .int .i64 x.f4.f2.f0, .string x.f4.f2.f1, .int .i64 x.f4.f2.f2, .int .i64 x.f4.f2.f3, .slice A10 x.f4.f2.f4.length c10, .slice A11 x.f5.length c11], rfl, rfl, ⟨[.int .i64 x.f4.f0, .int .i64 x.f4.f1, .int .i64 x.f4.f2.f0, .string x.f4.f2.f1, .int .i64 x.f4.f2.f2, .int .i64 x.f4.f2.f3, .slice A10 x.f4.f2.f4.length c10], [.slice A11 x.f5.length c11], rfl, (k38_mk w x.f4 l10 g10), ⟨A11, c11, rfl, l11, g11⟩⟩⟩⟩⟩⟩
theorem k41_mkM (w : World) (base : Nat) (ok : Nat → Prop) (x : S41) {v10 : Value} (g10 : k118.R 118 w base ok v10 x.f4.f2.f4) {v11 : Value} (g11 : k38.R 38 w base ok v11 x.f5) : k41.M w base ok x [.int .i64 x.f0, .int .i64 x.f1, .int .i64 x.f2, .int .i64 x.f3, .int .i64 x.f4.f0, .int .i64 x.f4.f1, .int .i64 x.f4.f2.f0, .string x.f4.f2.f1, .int .i64 x.f4.f2.f2, .int .i64 x.f4.f2.f3, v10, v11] := ⟨[.int .i64 x.f0], [.int .i64 x.f1, .int .i64 x.f2, .int .i64 x.f3, .int .i64 x.f4.f0, .int .i64 x.f4.f1, .int .i64 x.f4.f2.f0, .string x.f4.f2.f1, .int .i64 x.f4.f2.f2, .int .i64 x.f4.f2.f3, v10, v11], rfl, rfl, ⟨[.int .i64 x.f1], [.int .i64 x.f2, .int .i64 x.f3, .int .i64 x.f4.f0, .int .i64 x.f4.f1, .int .i64 x.f4.f2.f0, .string x.f4.f2.f1, .int .i64 x.f4.f2.f2, .int .i64 x.f4.f2.f3, v10, v11], rfl, rfl, ⟨[.int .i64 x.f2], [.int .i64 x.f3, .int .i64 x.f4.f0, .int .i64 x.f4.f1, .int .i64 x.f4.f2.f0, .string x.f4.f2.f1, .int .i64 x.f4.f2.f2, .int .i64 x.f4.f2.f3, v10, v11], rfl, rfl, ⟨[.int .i64 x.f3], [.int .i64 x.f4.f0, .int .i64 x.f4.f1, .int .i64 x.f4.f2.f0, .string x.f4.f2.f1, .int .i64 x.f4.f2.f2, .int .i64 x.f4.f2.f3, v10, v11], rfl, rfl, ⟨[.int .i64 x.f4.f0, .int .i64 x.f4.f1, .int .i64 x.f4.f2.f0, .string x.f4.f2.f1, .int .i64 x.f4.f2.f2, .int .i64 x.f4.f2.f3, v10], [v11], rfl, (k38_mkM w base ok x.f4 g10), ⟨v11, rfl, g11⟩⟩⟩⟩⟩⟩
def rd_T41 (xs : List S41) (i : Int) : S41 := xs.getD i.toNat z41
theorem at_T41 {w : World} {A : Option Addr} {n : Nat} {xs : List S41} (h : Kd.C k41 w A n xs) (i : Int) (h0 : 0 ≤ i) (h1 : i < n) : ∃ ad A10 c10 A11 c11, A = some ad ∧ w.cell? (ad.add (i.toNat * 12)) = some (.int .i64 (rd_T41 xs i).f0) ∧ w.cell? ⟨(ad.add (i.toNat * 12)).block, (ad.add (i.toNat * 12)).off + 1, none⟩ = some (.int .i64 (rd_T41 xs i).f1) ∧ w.cell? ⟨(ad.add (i.toNat * 12)).block, (ad.add (i.toNat * 12)).off + 2, none⟩ = some (.int .i64 (rd_T41 xs i).f2) ∧ w.cell? ⟨(ad.add (i.toNat * 12)).block, (ad.add (i.toNat * 12)).off + 3, none⟩ = some (.int .i64 (rd_T41 xs i).f3) ∧ w.cell? ⟨(ad.add (i.toNat * 12)).block, (ad.add (i.toNat * 12)).off + 4, none⟩ = some (.int .i64 (rd_T41 xs i).f4.f0) ∧ w.cell? ⟨(ad.add (i.toNat * 12)).block, (ad.add (i.toNat * 12)).off + 5, none⟩ = some (.int .i64 (rd_T41 xs i).f4.f1) ∧ w.cell? ⟨(ad.add (i.toNat * 12)).block, (ad.add (i.toNat * 12)).off + 6, none⟩ = some (.int .i64 (rd_T41 xs i).f4.f2.f0) ∧ w.cell? ⟨(ad.add (i.toNat * 12)).block, (ad.add (i.toNat * 12)).off + 7, none⟩ = some (.string (rd_T41 xs i).f4.f2.f1) ∧ w.cell? ⟨(ad.add (i.toNat * 12)).block, (ad.add (i.toNat * 12)).off + 8, none⟩ = some (.int .i64 (rd_T41 xs i).f4.f2.f2) ∧ w.cell? ⟨(ad.add (i.toNat * 12)).block, (ad.add (i.toNat * 12)).off + 9, none⟩ = some (.int .i64 (rd_T41 xs i).f4.f2.f3) ∧ w.cell? ⟨(ad.add (i.toNat * 12)).block, (ad.add (i.toNat * 12)).off + 10, none⟩ = some (.slice A10 (rd_T41 xs i).f4.f2.f4.length c10) ∧ w.cell? ⟨(ad.add (i.toNat * 12)).block, (ad.add (i.toNat * 12)).off + 11, none⟩ = some (.slice A11 (rd_T41 xs i).f5.length c11) ∧ (rd_T41 xs i).f4.f2.f4.length ≤ c10 ∧ k118.C w A10 (rd_T41 xs i).f4.f2.f4.length (rd_T41 xs i).f4.f2.f4 ∧ (rd_T41 xs i).f5.length ≤ c11 ∧ k38.C w A11 (rd_T41 xs i).f5.length (rd_T41 xs i).f5 := by
  obtain ⟨ad, c, e, _, hK, hc0⟩ := Kd.C_get h z41 i h0 h1
  have hc : ∀ j u, c[j]? = some u → w.cell? (ad.add (i.toNat * 12 + j)) = some u := hc0
  obtain ⟨A10, c10, A11, c11, rfl, l10, g10, l11, g11⟩ := k41_open hK
  exact ⟨ad, A10, c10, A11, c11, e, hc 0 _ rfl, by rw [← add_field _ _ 1 (by omega)]; exact hc 1 _ rfl, by rw [← add_field _ _ 2 (by omega)]; exact hc 2 _ rfl, by rw [← add_field _ _ 3 (by omega)]; exact hc 3 _ rfl, by rw [← add_field _ _ 4 (by omega)]; exact hc 4 _ rfl, by rw [← add_field _ _ 5 (by omega)]; exact hc 5 _ rfl, by rw [← add_field _ _ 6 (by omega)]; exact hc 6 _ rfl, by rw [← add_field _ _ 7 (by omega)]; exact hc 7 _ rfl, by rw [← add_field _ _ 8 (by omega)]; exact hc 8 _ rfl, by rw [← add_field _ _ 9 (by omega)]; exact hc 9 _ rfl, by rw [← add_field _ _ 10 (by omega)]; exact hc 10 _ rfl, by rw [← add_field _ _ 11 (by omega)]; exact hc 11 _ rfl, l10, g10, l11, g11⟩


/-! ### words -/
theorem infou8 : (Tryd.prog.info? 5).map (fun i => (i.zero, i.size, i.bytes)) = some (some (.int .u8 0), 1, 1) := by kernel_rfl
/-- An empty literal. -/
theorem empty_lit {α : Type} (d : Kd α) (e : Nat) (w : World) : d.R e (w.alloc (.cells #[] e)) w.heap.size (fun _ => True) (.slice (some ⟨w.heap.size, 0, none⟩) 0 0) [] := by
  refine ⟨fun _ _ => trivial, [], ?_, ?_⟩
  · have h2 := World.ownsRow_lit (base := w.heap.size) (e := e) (size := d.sz) w #[] 0 (Nat.le_refl _) (by simp [maxLen]) (by simp)
    simpa using h2
  · exact ⟨by simp, fun j p hj => by simp at hj⟩
theorem bnext {w w1 w2 : World} (hb : Below w.heap.size w w1) (o : Obj) (h : Below (w1.alloc o).heap.size (w1.alloc o) w2) : Below w.heap.size w w2 :=
  (below_alloc hb o).trans (h.mono (below_alloc hb o).size)
theorem bnext0 {w w1 w2 : World} (hb : Below w.heap.size w w1) (h : Below w1.heap.size w1 w2) : Below w.heap.size w w2 :=
  hb.trans (h.mono hb.size)
/-- A row of one's own that is read. -/
theorem R_C {α : Type} {d : Kd α} {e base : Nat} {ok : Nat → Prop} {w : World} {v : Value} {l : List α} (h : d.R e w base ok v l) : ∃ A c, v = .slice A l.length c ∧ l.length ≤ c ∧ d.C w A l.length l := Kd.R_reads h
/-- A literal of whole numbers, read. -/
theorem lit_C (k : IntKind) (W : World) (e : Nat) (fr : Nat × Nat) (xs : List Int) (hm : xs.length ≤ 9223372036854775807) : Kd.C (Kd.int k) (W.alloc (.cells (nums k xs).toArray e fr)) (some ⟨W.heap.size, 0, none⟩) xs.length xs := by
  refine Kd.C_of_reads (d := 0) (enc := fun x => Value.int k x) (h1 := fun _ => rfl) ⟨rfl, hm, fun _ => ⟨_, rfl, fun j hj => ?_⟩⟩
  rw [add_plain, World.cell?_alloc_mark]
  simp [nums, List.getElem?_eq_getElem hj, List.getD_eq_getElem?_getD]
theorem wrap64_in {n : Int} (h0 : -9223372036854775808 ≤ n) (h1 : n < 9223372036854775808) : wrap64 n = n := by unfold wrap64; omega
theorem wrap_next (n k : Nat) (h : k < n) (hm : n ≤ maxLen) : wrap64 ((k : Int) + 1) = ((k + 1 : Nat) : Int) := by
  unfold maxLen at hm
  rw [wrap64_in (by omega) (by omega)]
  omega
theorem meas_step (n k : Nat) (h : k < n) (h2 : wrap64 ((k : Int) + 1) = ((k + 1 : Nat) : Int)) : n - (intOf (.int .i64 (wrap64 ((k : Int) + 1)))).toNat < n - (intOf (.int .i64 (k : Int))).toNat := by
  rw [h2]
  simp only [intOf]
  omega
theorem rd_at (l : List Int) (i : Nat) (h : i < l.length) : rd l (i : Int) = l[i] := by simp [rd, List.getD_eq_getElem?_getD, List.getElem?_eq_getElem h]
theorem bind_of {α β : Type} {o : Option α} {a : α} {f : α → Option β} (h : o = some a) : o.bind f = f a := by
  subst h
  rfl
/-! ### cuts of bytes -/
theorem bytes_take (kl : IntKind) (A : Option Addr) (c : Nat) (xs : List Int) (m : Nat) (hm : m ≤ xs.length) (hc : xs.length ≤ c) :
    (∀ W : World, (Instr.slice 22 (.slice A xs.length c) none (some (.int kl (m : Int))) none).run Tryd.prog W = .ok (.slice A m c) W) ∧ (∀ w : World, Kd.C (Kd.int .u8) w A xs.length xs → Kd.C (Kd.int .u8) w A (xs.take m).length (xs.take m)) ∧ (xs.take m).length = m := by
  obtain ⟨i0, hi, _, hsz, _⟩ := info_parts infou8
  obtain ⟨hcut, hA, hC⟩ := print_take_of (P := Tryd.prog) (Value.int .u8) 0 22 5 kl Tryd.underlying22 hi hsz A c xs (m : Int) (by omega) (by omega) hc
  have hl : (xs.take m).length = m := by rw [List.length_take]; omega
  rw [Int.toNat_natCast] at hcut hA
  rw [hl] at hcut
  exact ⟨hcut, fun w h => Kd.C_of_reads (h1 := fun _ => rfl) (hA w (Kd.reads_of_C h)), hl⟩
theorem bytes_drop (kl : IntKind) (A : Option Addr) (c : Nat) (xs : List Int) (m : Nat) (hm : m ≤ xs.length) (hc : xs.length ≤ c) :
    ∃ A' : Option Addr, (∀ W : World, (Instr.slice 22 (.slice A xs.length c) (some (.int kl (m : Int))) none none).run Tryd.prog W = .ok (.slice A' (xs.length - m) (c - m)) W) ∧ (∀ w : World, Kd.C (Kd.int .u8) w A xs.length xs → Kd.C (Kd.int .u8) w A' (xs.drop m).length (xs.drop m)) ∧ (xs.drop m).length ≤ c - m ∧ ∀ ad', A' = some ad' → ∃ ad, A = some ad ∧ ad'.block = ad.block := by
  obtain ⟨i0, hi, _, hsz, _⟩ := info_parts infou8
  refine ⟨if c = m then A else A.map (·.add m), fun W => ?_, fun w h => ?_, by rw [List.length_drop]; omega, fun ad' h => ?_⟩
  · have hel : (Tryd.prog).elem 22 = 5 := by simp [Program.elem, Tryd.underlying22]
    have hu : (Tryd.prog).underlying 22 = some (.slice ((Tryd.prog).elem 22)) := by rw [hel]; exact Tryd.underlying22
    rw [run_slice_l W 22 A xs.length c hu kl (m : Int) (Int.natCast_nonneg _) (by omega), hel]
    simp [sizeOf, typeInfo, hi, hsz, sliced, Result.andThen]
  · have h2 := Kd.C_drop h hm hc
    have hs : m * (Kd.int .u8).sz = m := Nat.mul_one m
    rwa [hs] at h2
  · split at h
    · exact ⟨ad', h, rfl⟩
    · cases A with
      | none => cases h
      | some ad =>
        injection h with h
        refine ⟨ad, rfl, ?_⟩
        rw [← h]
        unfold Addr.add
        split <;> rfl
theorem bytes_mid (kl kh : IntKind) (A : Option Addr) (c : Nat) (xs : List Int) (a b : Nat) (h1 : a ≤ b) (hm : b ≤ xs.length) (hc : xs.length ≤ c) :
    ∃ A' : Option Addr, (∀ W : World, (Instr.slice 22 (.slice A xs.length c) (some (.int kl (a : Int))) (some (.int kh (b : Int))) none).run Tryd.prog W = .ok (.slice A' (b - a) (c - a)) W) ∧ (∀ w : World, Kd.C (Kd.int .u8) w A xs.length xs → Kd.C (Kd.int .u8) w A' ((xs.take b).drop a).length ((xs.take b).drop a)) ∧ ((xs.take b).drop a).length ≤ c - a ∧ ((xs.take b).drop a).length = b - a := by
  obtain ⟨i0, hi, _, hsz, _⟩ := info_parts infou8
  obtain ⟨A', hcut, hA, hC⟩ := print_mid_of (P := Tryd.prog) (Value.int .u8) 0 22 5 kl kh Tryd.underlying22 hi hsz A c xs (a : Int) (b : Int) (by omega) (by omega) (by omega) hc
  have hl : ((xs.take b).drop a).length = b - a := by rw [List.length_drop, List.length_take]; omega
  rw [Int.toNat_natCast, Int.toNat_natCast] at hcut hA hC
  rw [hl] at hcut
  exact ⟨A', hcut, fun w h => Kd.C_of_reads (h1 := fun _ => rfl) (hA w (Kd.reads_of_C h)), hC, hl⟩
end Go.Proofs.YtmeblifbkhpdnaaDoor.K
/- Contracts of slices.Clone (of bytes), sum.build and sum.Crc: what they answer, in whatever memory. No conditions but that the bytes are read as a list. -/
namespace Go.Proofs.YtmeblifbkhpdnaaDoor.K
set_option linter.unusedVariables false
set_option linter.unusedSimpArgs false
open Go.RowKit Go.Proofs.YtmeblifbkhpdnaaDoorW.PrintWords Go.Proofs.YtmeblifbkhpdnaaDoorW.PrintLast Go.Proofs.YtmeblifbkhpdnaaDoorW.PrintMore
/-! ### slices.Clone of bytes -/
def clone.f (l0 : List Int) : Option (List Int) := if l0.length < 140737488355328 then some l0 else none
set_option maxHeartbeats 8000000 in
theorem clone.calls (A0 : Option Addr) (c0 : Nat) (l0 : List Int) (r : List Int) (w : World) (hr0 : Kd.C (Kd.int .u8) w A0 l0.length l0) (hc0 : l0.length ≤ c0) (h : clone.f l0 = some r) :
    Calls Tryd.prog 53 #[.slice A0 l0.length c0] w fun e w' => ∃ v0_ : Value, e = .returned (v0_) ∧ Kd.R (Kd.int .u8) 5 w' w.heap.size (fun _ => True) v0_ r ∧ Below w.heap.size w w' := by
  unfold clone.f at h
  have infou8 : (Tryd.prog.info? 5).map (fun i => (i.zero, i.size, i.bytes)) = some (some (.int .u8 0), 1, 1) := by kernel_rfl
  split at h
  case isFalse => cases h
  case isTrue hlim =>
  obtain rfl := Option.some.inj h
  clear h
  have HR0 := Aside0.mk hr0
  have HB := Aside0.mk (Below.refl w.heap.size w)
  rcases A0 with _ | ad
  · obtain rfl : l0 = [] := by
      rcases Nat.eq_zero_or_pos l0.length with h0 | h0
      · exact List.eq_nil_of_length_eq_zero h0
      · obtain ⟨ad, h, _⟩ := hr0.2.2 h0
        cases h
    clear hr0
    have hn := fun (W : World) => Go.run_eql_slice_nil (P := Tryd.prog) W 22 5 none 0 c0 Tryd.underlying22
    show Calls Tryd.prog 53 #[.slice none 0 c0] w _
    go_enter Tryd.func53, Tryd.ntmps53
    go_wp2_with fail
    go_ret
    exact ⟨_, rfl, Kd.R_nil _ _ _ _ _, Below.refl _ _⟩
  · have LM := Aside0.mk hlim
    have EL := Aside0.mk (empty_lit (Kd.int .u8) 5 w)
    clear hr0 hlim hc0
    have hn := fun (W : World) => Go.run_eql_slice_nil (P := Tryd.prog) W 22 5 (some ad) l0.length c0 Tryd.underlying22
    go_enter Tryd.func53, Tryd.ntmps53
    go_wp2_with (first | ((with_reducible refine gate_builtin (b := .append) (xs := #[.tmp 5, .tmp 6]) rfl ?_); at_builtin; refine Kd.R_append_rows (Kd.int .u8) (w0 := w) w.heap.size rfl (.tmp 5) (.tmp 6) 22 5 (.int .u8 0) 1 rfl Tryd.underlying22 infou8 rfl (by decide) (by omega) (.slice (some ⟨w.heap.size, 0, none⟩) 0 0) ([] : List Int) l0 _ _ _ (fun _ => True) (fun _ => False) rfl rfl ?aO ?aR (fun _ _ h => h) (fun _ h => h.elim) ?aF ?aB ?aS ?aL ?_; (case aR => exact Kd.C_alloc HR0.out _); (case aB => exact below_alloc HB.out _); (case aF => exact (fun _ _ => trivial)); (case aO => exact EL.out); (case aS => exact (by simp)); (case aL => have := LM.out; simp; omega); intro v102 w3 ho hb hg hat; have n0_ := Aside0.mk (hb); have n1_ := Aside0.mk (ho); clear HB; have HB := n0_; have HO103 := n1_; clear n0_ n1_; clear ho hb hg hat))
    go_ret
    exact ⟨_, rfl, by simpa using HO103.out, HB.out⟩
/-! ### sum.build, sum.Crc -/
theorem bits_xor32 (a b : BitVec 32) : Go.bits .xor .u32 (a.toNat : Int) (b.toNat : Int) = ((a ^^^ b).toNat : Int) := by
  unfold Go.bits
  have h := (a ^^^ b).isLt
  simp only [IntKind.bits, BitVec.ofInt_natCast, BitVec.ofNat_toNat, BitVec.setWidth_eq]
  rw [IntKind.wrap_u32]
  exact Int.emod_eq_of_lt (Int.natCast_nonneg _) (Int.ofNat_lt.2 h)
theorem bits_and32 (a b : BitVec 32) : Go.bits .and .u32 (a.toNat : Int) (b.toNat : Int) = ((a &&& b).toNat : Int) := by
  unfold Go.bits
  have h := (a &&& b).isLt
  simp only [IntKind.bits, BitVec.ofInt_natCast, BitVec.ofNat_toNat, BitVec.setWidth_eq]
  rw [IntKind.wrap_u32]
  exact Int.emod_eq_of_lt (Int.natCast_nonneg _) (Int.ofNat_lt.2 h)
/-- One step of the table's making, as the walk has it. -/
theorem step32 (v : BitVec 32) : Go.bits .xor .u32 ((v.toNat : Int) / 2) (Go.bits .and .u32 3988292384 ((-(Go.bits .and .u32 (v.toNat : Int) 1)) % 4294967296)) = ((CrcMath.st1 v).toNat : Int) := by
  have e1 : Go.bits .and .u32 (v.toNat : Int) 1 = ((v.toNat % 2 : Nat) : Int) := by
    have := bits_and32 v 1#32
    rw [show ((1#32).toNat : Int) = 1 from rfl] at this
    rw [this, BitVec.toNat_and]
    show ((v.toNat &&& 1 : Nat) : Int) = _
    rw [Nat.and_one_is_mod]
  have e2 : Go.bits .and .u32 3988292384 ((-(Go.bits .and .u32 (v.toNat : Int) 1)) % 4294967296) = (((if v.getLsbD 0 then CrcMath.poly else 0#32).toNat : Nat) : Int) := by
    rw [e1, BitVec.getLsbD, Nat.testBit_zero]
    rcases Nat.mod_two_eq_zero_or_one v.toNat with h | h <;> rw [h] <;> decide
  have e3 : ((v.toNat : Int) / (2 : Int)) = ((v >>> 1).toNat : Int) := by
    have : (v >>> 1).toNat = v.toNat / 2 := by rw [BitVec.toNat_ushiftRight, Nat.shiftRight_eq_div_pow]
    rw [this]
    omega
  rw [e2, e3, bits_xor32]
  rfl
/-- The table's entry, as a value. -/
def tbv (i : Nat) : Value := .int .u32 ((CrcMath.stN 4 (BitVec.ofNat 32 i)).toNat : Int)
def IsTab (w : World) (g k : Nat) : Prop := ∃ cs : Array Value, w.heap[g]? = some (.cells cs 99 (0, 0)) ∧ cs.size = 16 ∧ (∀ j, j < k → cs[j]? = some (tbv j)) ∧ ∀ j, j < 16 → ∃ v, cs[j]? = some v
def tbl : Array Value := #[tbv 0, tbv 1, tbv 2, tbv 3, tbv 4, tbv 5, tbv 6, tbv 7, tbv 8, tbv 9, tbv 10, tbv 11, tbv 12, tbv 13, tbv 14, tbv 15]
theorem tbl_of {cs : Array Value} (h : cs.size = 16) (hall : ∀ j, j < 16 → cs[j]? = some (tbv j)) : cs = tbl := by
  apply Array.ext
  · rw [h]; rfl
  · intro i h1 h2
    have h3 := hall i (by omega)
    rw [Array.getElem?_eq_getElem h1] at h3
    have h4 := Option.some.inj h3
    rw [h4]
    have : i = 0 ∨ i = 1 ∨ i = 2 ∨ i = 3 ∨ i = 4 ∨ i = 5 ∨ i = 6 ∨ i = 7 ∨ i = 8 ∨ i = 9 ∨ i = 10 ∨ i = 11 ∨ i = 12 ∨ i = 13 ∨ i = 14 ∨ i = 15 := by omega
    rcases this with rfl | rfl | rfl | rfl | rfl | rfl | rfl | rfl | rfl | rfl | rfl | rfl | rfl | rfl | rfl | rfl <;> rfl
theorem tbl_all {j : Nat} (h : j < 16) : tbl[j]? = some (tbv j) := by
  have : j = 0 ∨ j = 1 ∨ j = 2 ∨ j = 3 ∨ j = 4 ∨ j = 5 ∨ j = 6 ∨ j = 7 ∨ j = 8 ∨ j = 9 ∨ j = 10 ∨ j = 11 ∨ j = 12 ∨ j = 13 ∨ j = 14 ∨ j = 15 := by omega
  rcases this with rfl | rfl | rfl | rfl | rfl | rfl | rfl | rfl | rfl | rfl | rfl | rfl | rfl | rfl | rfl | rfl <;> rfl
theorem isTab_set {w : World} {g k : Nat} (hk : k < 16) (h : IsTab w g k) : IsTab (w.setCell ⟨g, k, none⟩ (tbv k)) g (k + 1) := by
  obtain ⟨cs, h1, h2, h3, h4⟩ := h
  refine ⟨_, blk_set h1 k (tbv k), by simpa using h2, fun j hj => ?_, fun j hj => ?_⟩
  · rw [Array.getElem?_setIfInBounds]
    by_cases e : k = j
    · subst e; rw [if_pos rfl, if_pos (by omega)]
    · rw [if_neg e]; exact h3 j (by omega)
  · rw [Array.getElem?_setIfInBounds]
    by_cases e : k = j
    · subst e; rw [if_pos rfl, if_pos (by omega)]; exact ⟨_, rfl⟩
    · rw [if_neg e]; exact h4 j hj
theorem isTab_zero (w : World) : IsTab (w.alloc (.cells #[.int .u32 0, .int .u32 0, .int .u32 0, .int .u32 0, .int .u32 0, .int .u32 0, .int .u32 0, .int .u32 0, .int .u32 0, .int .u32 0, .int .u32 0, .int .u32 0, .int .u32 0, .int .u32 0, .int .u32 0, .int .u32 0] 99)) w.heap.size 0 := by
  refine ⟨_, blk_new w _, rfl, fun j hj => by omega, fun j hj => ?_⟩
  rw [Array.getElem?_eq_getElem (by simpa using hj)]
  exact ⟨_, rfl⟩
set_option maxHeartbeats 8000000 in
theorem sum_build.calls (w : World) : Calls Tryd.prog 64 #[] w fun e w' => e = .returned (.agg tbl) ∧ Below w.heap.size w w' := by
  have HI := Aside0.mk (isTab_zero w)
  go_enter Tryd.func64, Tryd.ntmps64
  go_wp2_with fail
  go_loopw [3] (fun v wr => ∃ k : Nat, k ≤ 16 ∧ v = .int .i64 k ∧ Aside0 (IsTab wr w.heap.size k) ∧ Aside0 (Below w.heap.size w wr)) (fun v _ => 16 - (intOf v).toNat)
  case atStart => exact ⟨0, by omega, rfl, HI, ⟨below_alloc (Below.refl _ _) _⟩⟩
  case round =>
    obtain ⟨k, hk, rfl, HT, HB⟩ := hrel
    clear HI
    by_cases hlt : k < 16
    · have hb : decide ((k : Int) < 16) = true := by simp; omega
      go_wp2_with fail
      go_loop [2, 8] (fun n v => ∃ j : Nat, j ≤ 4 ∧ v = .int .i64 j ∧ n = .int .u32 ((CrcMath.stN j (BitVec.ofNat 32 k)).toNat : Int)) (fun _ v => 4 - (intOf v).toNat)
      case atStart =>
        refine ⟨0, by omega, rfl, ?_⟩
        have e : ((BitVec.ofNat 32 k).toNat : Int) = (k : Int) := by rw [BitVec.toNat_ofNat]; omega
        simp only [CrcMath.stN, e]
      case round =>
        obtain ⟨j, hj, rfl, rfl⟩ := hrel
        have S := Aside0.mk (step32 (CrcMath.stN j (BitVec.ofNat 32 k)))
        by_cases hlt2 : j < 4
        · have hb2 : decide ((j : Int) < 4) = true := by simp; omega
          go_wp2_with fail
          go_round
          case rel => exact ⟨j + 1, by omega, by go_num, by rw [S.out, CrcMath.stN_succ']⟩
          case measure => simp [intOf]; omega
        · have hb2 : decide ((j : Int) < 4) = false := by simp; omega
          obtain rfl : j = 4 := by omega
          clear S
          obtain ⟨cs, hcs, hsz, hlo, hall⟩ := HT.out
          obtain ⟨v0, hv0⟩ := hall k hlt
          have hc0 : wr.cell? ⟨w.heap.size, k, none⟩ = some v0 := (blk_cell hcs k).trans hv0
          have hfz := blk_frozen hcs k
          have HC := Aside0.mk hcs
          clear hcs hv0 hall hlo
          go_wp2_with fail
          go_roundw
          case rel => exact ⟨k + 1, by omega, by go_num, ⟨isTab_set hlt HT.out⟩, ⟨below_set HB.out (Nat.le_refl _)⟩⟩
          case measure => simp [intOf]; omega
    · have hb : decide ((k : Int) < 16) = false := by simp; omega
      obtain rfl : k = 16 := by omega
      obtain ⟨cs, hcs, hsz, hlo, hall⟩ := HT.out
      obtain rfl := tbl_of hsz hlo
      have HC := Aside0.mk hcs
      clear hcs hsz hlo hall hlt hk HT
      go_wp2_with (first | (refine wpList_load_row rfl 99 (.tmp 0) rfl w.heap.size rfl 99 tbl (0, 0) _ HC.out Tryd.underlying99 rfl (by kernel_rfl) ?_) | (refine wpList_store_row rfl 99 (.tmp 0) (.tmp 22) rfl w.heap.size tbl rfl rfl 99 tbl HC.out (by kernel_rfl) rfl (by kernel_rfl) ?_))
      exact bodyPost_ret (v := .agg tbl) (results_cell_row rfl _ _ w.heap.size 99 tbl (0, 0) _ rfl (setRow_heap _ _ _ _ _ _ HC.out) Tryd.underlying99 rfl (by kernel_rfl)) rfl ⟨rfl, below_setRow HB.out (Nat.le_refl _) _⟩
theorem bits_byte32 (s : BitVec 32) (c : Int) : Go.bits .xor .u32 (s.toNat : Int) (c % 4294967296) = ((s ^^^ BitVec.ofInt 32 c).toNat : Int) := by
  have e : (c % 4294967296) = ((BitVec.ofInt 32 c).toNat : Int) := by
    rw [BitVec.toNat_ofInt]
    omega
  rw [e, bits_xor32]
theorem bits_and15 (v : BitVec 32) : Go.bits .and .u32 (v.toNat : Int) 15 = ((v.toNat % 16 : Nat) : Int) := by
  have := bits_and32 v 15#32
  rw [show ((15#32).toNat : Int) = 15 from rfl] at this
  rw [this, BitVec.toNat_and]
  show ((v.toNat &&& 15 : Nat) : Int) = _
  rw [show (15 : Nat) = 2 ^ 4 - 1 from rfl, Nat.and_two_pow_sub_one_eq_mod]
/-- Four steps at once, by the table. -/
theorem nibble (v : BitVec 32) : (v >>> 4) ^^^ CrcMath.stN 4 (BitVec.ofNat 32 (v.toNat % 16)) = CrcMath.stN 4 v := by
  have e : v = ((v >>> 4) <<< 4) ^^^ BitVec.ofNat 32 (v.toNat % 16) := by
    apply BitVec.eq_of_getLsbD_eq
    intro i hi
    rw [BitVec.getLsbD_xor, BitVec.getLsbD_shiftLeft, BitVec.getLsbD_ushiftRight, BitVec.getLsbD_ofNat, show (16 : Nat) = 2 ^ 4 from rfl, Nat.testBit_mod_two_pow]
    by_cases h : i < 4
    · simp [h, hi, BitVec.getLsbD]
    · have : 4 + (i - 4) = i := by omega
      simp [h, hi, this]
  have h2 : CrcMath.stN 4 ((v >>> 4) <<< 4) = v >>> 4 := CrcMath.stN_shl 4 _ (fun i hi => by rw [BitVec.getLsbD_ushiftRight]; exact BitVec.getLsbD_of_ge _ _ (by omega))
  conv => rhs; rw [e, CrcMath.stN_xor, h2]
theorem step16 (v : BitVec 32) : Go.bits .xor .u32 ((v.toNat : Int) / 16) ((CrcMath.stN 4 (BitVec.ofNat 32 (v.toNat % 16))).toNat : Int) = ((CrcMath.stN 4 v).toNat : Int) := by
  have e3 : ((v.toNat : Int) / (16 : Int)) = ((v >>> 4).toNat : Int) := by
    have : (v >>> 4).toNat = v.toNat / 16 := by rw [BitVec.toNat_ushiftRight, Nat.shiftRight_eq_div_pow]
    rw [this]
    omega
  rw [e3, bits_xor32, nibble]
/-- Its value, a number. -/
def crcI (l : List Int) : Int := ((CrcMath.crc l).toNat : Int)
theorem crcI_max (l : List Int) : Go.bits .xor .u32 IntKind.u32.max ((CrcMath.crcS CrcMath.ones l).toNat : Int) = crcI l := by
  have e : IntKind.u32.max = ((CrcMath.ones).toNat : Int) := by decide
  rw [e, bits_xor32, BitVec.xor_comm]
  rfl
def sum_Crc.f (l0 : List Int) : Option Int := some (crcI l0)
theorem crcS_snoc (s : BitVec 32) (l : List Int) (k : Nat) (h : k < l.length) : CrcMath.crcS s (l.take (k + 1)) = CrcMath.stN 4 (CrcMath.stN 4 (CrcMath.crcS s (l.take k) ^^^ BitVec.ofInt 32 (rd l k))) := by
  rw [List.take_succ_eq_append_getElem h, CrcMath.crcS_append]
  have : rd l k = l[k] := by simp [rd, List.getD_eq_getElem?_getD, List.getElem?_eq_getElem h]
  rw [this, ← CrcMath.stN_add 4 4]
  rfl
set_option maxHeartbeats 8000000 in
set_option maxRecDepth 100000 in
theorem sum_Crc.calls (A0 : Option Addr) (c0 : Nat) (l0 : List Int) (r : Int) (w : World) (hr0 : Kd.C (Kd.int .u8) w A0 l0.length l0) (hc0 : l0.length ≤ c0) (h : sum_Crc.f l0 = some r) :
    Calls Tryd.prog 27 #[.slice A0 l0.length c0] w fun e w' => e = .returned (.int .u32 r) ∧ Below w.heap.size w w' := by
  obtain rfl := Option.some.inj h
  clear h hc0
  have HR0 := Aside0.mk hr0
  have hlen := hr0.2.1
  clear hr0
  go_enter Tryd.func27, Tryd.ntmps27
  go_wp2_with fail
  refine (sum_build.calls _).mono ?_
  rintro e w1 ⟨rfl, hb⟩
  have HB := Aside0.mk hb
  clear hb
  go_wp2_with (refine wpList_store_row rfl 99 (.tmp 3) (.tmp 7) rfl w1.heap.size tbl rfl rfl 99 _ (blk_new w1 _) (by kernel_rfl) rfl (by kernel_rfl) ?_)
  have HC := Aside0.mk (setRow_heap _ w1.heap.size _ tbl 99 _ (blk_new w1 (.cells #[.int .u32 0, .int .u32 0, .int .u32 0, .int .u32 0, .int .u32 0, .int .u32 0, .int .u32 0, .int .u32 0, .int .u32 0, .int .u32 0, .int .u32 0, .int .u32 0, .int .u32 0, .int .u32 0, .int .u32 0, .int .u32 0] 99)))
  have HB2 := Aside0.mk (below_setRow (below_alloc HB.out (.cells #[.int .u32 0, .int .u32 0, .int .u32 0, .int .u32 0, .int .u32 0, .int .u32 0, .int .u32 0, .int .u32 0, .int .u32 0, .int .u32 0, .int .u32 0, .int .u32 0, .int .u32 0, .int .u32 0, .int .u32 0, .int .u32 0] 99)) (HB.out.size) tbl)
  have HR2 := Aside0.mk (Kd.C_below HR0.out HB2.out)
  obtain ⟨W, hW⟩ : ∃ W, W = (w1.alloc (.cells #[.int .u32 0, .int .u32 0, .int .u32 0, .int .u32 0, .int .u32 0, .int .u32 0, .int .u32 0, .int .u32 0, .int .u32 0, .int .u32 0, .int .u32 0, .int .u32 0, .int .u32 0, .int .u32 0, .int .u32 0, .int .u32 0] 99)).setRow w1.heap.size tbl := ⟨_, rfl⟩
  rw [← hW] at HC HB2 HR2 ⊢
  clear hW
  have hl2 : (0 : Int) ≤ (l0.length : Int) := Int.natCast_nonneg _
  go_loop [4, 10] (fun n v => ∃ k : Nat, k ≤ l0.length ∧ v = .int .i64 k ∧ n = .int .u32 ((CrcMath.crcS CrcMath.ones (l0.take k)).toNat : Int)) (fun _ v => l0.length - (intOf v).toNat)
  case atStart => exact ⟨0, by omega, rfl, rfl⟩
  case round =>
    obtain ⟨k, hk, rfl, rfl⟩ := hrel
    by_cases hlt : k < l0.length
    · have hb : decide ((k : Int) < (l0.length : Int)) = true := by simp; omega
      have S := Aside0.mk (crcS_snoc CrcMath.ones l0 k hlt)
      obtain ⟨ad, e1, hc⟩ := Kd.at_int HR2.out (k : Int) (by omega) (by omega)
      cases e1
      rw [Int.toNat_natCast] at hc
      generalize hs : CrcMath.crcS CrcMath.ones (l0.take k) = s at *
      generalize hcq : rd l0 (k : Int) = c at *
      clear hs
      obtain ⟨v1, hv1⟩ : ∃ v, v = s ^^^ BitVec.ofInt 32 c := ⟨_, rfl⟩
      obtain ⟨v2, hv2⟩ : ∃ v, v = CrcMath.stN 4 v1 := ⟨_, rfl⟩
      obtain ⟨v3, hv3⟩ : ∃ v, v = CrcMath.stN 4 v2 := ⟨_, rfl⟩
      have S' := Aside0.mk (S.out.trans ((congrArg (fun z => CrcMath.stN 4 (CrcMath.stN 4 z)) hv1.symm).trans ((congrArg (CrcMath.stN 4) hv2.symm).trans hv3.symm)))
      have q1 := (bits_byte32 s c).trans (congrArg (fun z : BitVec 32 => (z.toNat : Int)) hv1.symm)
      have q2 := bits_and15 v1
      have q3 := (step16 v1).trans (congrArg (fun z : BitVec 32 => (z.toNat : Int)) hv2.symm)
      have q4 := bits_and15 v2
      have q5 := (step16 v2).trans (congrArg (fun z : BitVec 32 => (z.toNat : Int)) hv3.symm)
      have m1 : v1.toNat % 16 < 16 := Nat.mod_lt _ (by omega)
      have m2 : v2.toNat % 16 < 16 := Nat.mod_lt _ (by omega)
      have cA : W.cell? ⟨w1.heap.size, v1.toNat % 16, none⟩ = some (.int .u32 ((CrcMath.stN 4 (BitVec.ofNat 32 (v1.toNat % 16))).toNat : Int)) := (blk_cell HC.out _).trans (tbl_all m1)
      have cB : W.cell? ⟨w1.heap.size, v2.toNat % 16, none⟩ = some (.int .u32 ((CrcMath.stN 4 (BitVec.ofNat 32 (v2.toNat % 16))).toNat : Int)) := (blk_cell HC.out _).trans (tbl_all m2)
      clear S hv1 hv2 hv3 hcq
      generalize v1.toNat % 16 = i1 at *
      generalize v2.toNat % 16 = i2 at *
      go_wp2_with fail
      go_round
      case rel => exact ⟨k + 1, by omega, by go_num, by rw [S'.out]⟩
      case measure => simp [intOf]; omega
    · have hb : decide ((k : Int) < (l0.length : Int)) = false := by simp; omega
      obtain rfl : k = l0.length := by omega
      go_wp2_with fail
      go_ret
      exact ⟨by simp [crcI_max], HB2.out⟩

end Go.Proofs.YtmeblifbkhpdnaaDoor.K
/- Contracts of bits.Reader's small functions: Err, Left, fail, next, Read: what they answer of a reader that holds these bytes and this error. No other conditions. -/
namespace Go.Proofs.YtmeblifbkhpdnaaDoor.K
set_option linter.unusedVariables false
set_option linter.unusedSimpArgs false
open Go.RowKit Go.Proofs.YtmeblifbkhpdnaaDoorW.PrintWords Go.Proofs.YtmeblifbkhpdnaaDoorW.PrintLast Go.Proofs.YtmeblifbkhpdnaaDoorW.PrintMore

/-- The first of some numbers that isn't 0, or 0. -/
def orL : List Int → Int
  | [] => 0
  | c :: t => if c = 0 then orL t else c
theorem orL_drop (l : List Int) (k : Nat) (h : k < l.length) : orL (l.drop k) = if rd l (k : Int) = 0 then orL (l.drop (k + 1)) else rd l (k : Int) := by
  rw [List.drop_eq_getElem_cons h, rd_at l k h]
  rfl
set_option maxHeartbeats 800000 in
theorem cmp_Or (A0 : Option Addr) (c0 : Nat) (l0 : List Int) (w : World) (hr0 : Kd.C (Kd.int .i64) w A0 l0.length l0) :
    Calls Tryd.prog 87 #[.slice A0 l0.length c0] w fun e w' => e = .returned (.int .i64 (orL l0)) ∧ w = w' := by
  have HR0 := Aside0.mk hr0
  have hlen := hr0.2.1
  clear hr0
  go_enter Tryd.func87, Tryd.ntmps87
  go_wp2_with fail
  go_loop [8] (fun v => ∃ k : Nat, k ≤ l0.length ∧ v = .int .i64 k ∧ Aside0 (orL (l0.drop k) = orL l0)) (fun v => l0.length - (intOf v).toNat)
  case atStart => exact ⟨0, by omega, rfl, ⟨rfl⟩⟩
  case round =>
    obtain ⟨k, hk, rfl, HO⟩ := hrel
    by_cases hlt : k < l0.length
    · have hb : decide ((k : Int) < (l0.length : Int)) = true := by simp; omega
      have HS := Aside0.mk (orL_drop l0 k hlt)
      obtain ⟨ad, e1, hc⟩ := Kd.at_int HR0.out (k : Int) (by omega) (by omega)
      cases e1
      rw [Int.toNat_natCast] at hc
      generalize hz : rd l0 (k : Int) = z at *
      clear hz
      by_cases hz : z = 0
      · have h0 : (z != 0) = false := by rw [hz]; rfl
        have HZ := Aside0.mk hz
        clear hz
        go_wp2_with fail
        go_round
        case rel => exact ⟨k + 1, by omega, by go_num, ⟨by have h := HS.out; rw [if_pos HZ.out, HO.out] at h; exact h.symm⟩⟩
        case measure => simp [intOf]; omega
      · have h0 : (z != 0) = true := by rw [bne_iff_ne]; exact hz
        have HZ := Aside0.mk hz
        clear hz
        go_wp2_with fail
        go_ret
        exact ⟨by have h := HS.out; rw [if_neg HZ.out, HO.out] at h; rw [h]; rfl, rfl⟩
    · have hb : decide ((k : Int) < (l0.length : Int)) = false := by simp; omega
      obtain rfl : k = l0.length := by omega
      go_wp2_with fail
      go_ret
      exact ⟨by have h := HO.out; rw [List.drop_length] at h; rw [← h]; rfl, rfl⟩

/-- The error that is kept: the first. -/
def keepE (e x : Int) : Int := if e = 0 then x else e
theorem orL_two (e x : Int) : orL [e, x] = keepE e x := by
  unfold keepE
  simp only [orL]
  by_cases he : e = 0
  · by_cases hx : x = 0 <;> simp [he, hx]
  · simp [he]
/-- A row of bytes lies in a block of bytes. -/
def U8 (w : World) (A : Option Addr) : Prop := ∀ ad, A = some ad → ∃ cells, w.heap[ad.block]? = some (.cells cells 5 (0, 0))
/-- A reader in memory: at block g, of these bytes, with this error. -/
def Rd (w : World) (g : Nat) (l : List Int) (e : Int) : Prop :=
  ∃ A c, w.heap[g]? = some (.cells #[.slice A l.length c, .int .i64 e] 86 (0, 0)) ∧ l.length ≤ c ∧ Kd.C (Kd.int .u8) w A l.length l ∧ CrcMath.Bytes l ∧ U8 w A
theorem bytes_nil : CrcMath.Bytes [] := fun c hc => by cases hc
theorem Rd.bytes {w : World} {g : Nat} {l : List Int} {e : Int} (h : Rd w g l e) : CrcMath.Bytes l := by
  obtain ⟨A, c, _, _, _, h, _⟩ := h
  exact h
theorem Rd.lt {w : World} {g : Nat} {l : List Int} {e : Int} (h : Rd w g l e) : g < w.heap.size := by
  obtain ⟨A, c, h1, _⟩ := h
  exact blk_lt h1
/-- A row of bytes doesn't lie in a reader's block. -/
theorem bytes_far {w : World} {g : Nat} {v1 v2 : Value} {t : TypeId} {A : Option Addr} {n : Nat} {l : List Int} (hg : w.heap[g]? = some (.cells #[v1, v2] t (0, 0))) (h1 : ∀ x, v1 ≠ .int .u8 x) (h2 : ∀ x, v2 ≠ .int .u8 x)
    (hc : Kd.C (Kd.int .u8) w A n l) : ∀ ad, A = some ad → 0 < n → ad.block ≠ g := by
  intro ad ha hn he
  obtain ⟨ad2, e2, hx⟩ := Kd.at_int hc 0 (by omega) (by omega)
  rw [ha] at e2
  cases e2
  have hz : (ad.add (0 : Int).toNat) = ad := by
    unfold Addr.add
    split <;> simp_all
  rw [hz] at hx
  obtain ⟨b, o, q⟩ := ad
  subst he
  cases q with
  | none =>
    rw [blk_cell hg o] at hx
    match o with
    | 0 => simp at hx; exact h1 _ hx
    | 1 => simp at hx; exact h2 _ hx
    | o + 2 => simp at hx
  | some q => simp [World.cell?, hg] at hx
theorem bytes_grown {w w1 : World} {g : Nat} {A : Option Addr} {n : Nat} {l : List Int} (hc : Kd.C (Kd.int .u8) w A n l) (hg : w.grownBy w1 (some g)) (hf : ∀ ad, A = some ad → 0 < n → ad.block ≠ g) : Kd.C (Kd.int .u8) w1 A n l :=
  Kd.C_keep (g := g) (0 : Int) hc ⟨hg.size, fun i hi hne _ => hg.block i hi (by simpa using hne)⟩ hf

theorem grown_set {w W : World} {g j : Nat} {v : Value} (h : w.grownBy W (some g)) : w.grownBy (W.setCell ⟨g, j, none⟩ v) (some g) :=
  ⟨by rw [← h.os]; exact (Below.refl 0 _ |>.setCell (by simp) _).os, by rw [← h.tape]; exact (Below.refl 0 _ |>.setCell (by simp) _).tape, by rw [← h.output]; exact (Below.refl 0 _ |>.setCell (by simp) _).output, Nat.le_trans h.size (Below.refl 0 _ |>.setCell (by simp) _).size, fun i hi hne => (Below.heap_setCell W _ _ i (by simpa using hne)).trans (h.block i hi hne)⟩
theorem grown_drew {w W : World} {r : Option Nat} (h : w.grownBy W r) : w.grownBy W.drew r := ⟨h.os, h.tape, h.output, h.size, h.block⟩
theorem grown_drewN {w W : World} {r : Option Nat} (h : w.grownBy W r) (n : Nat) : w.grownBy (W.drewN n) r := ⟨h.os, h.tape, h.output, h.size, h.block⟩
/-- A reader in its block: the bytes told at a world in which that block has been written. -/
theorem Rd.of_set {w : World} {g : Nat} {v1 v2 : Value} {A : Option Addr} {c : Nat} {l : List Int} {e : Int} (hg : w.heap[g]? = some (.cells #[v1, v2] 86 (0, 0))) (h1 : ∀ x, v1 ≠ .int .u8 x) (h2 : ∀ x, v2 ≠ .int .u8 x)
    (hc : Kd.C (Kd.int .u8) w A l.length l) (hl : l.length ≤ c) (hb : CrcMath.Bytes l) (hu : U8 w A) {W : World} (hW : W.heap[g]? = some (.cells #[.slice A l.length c, .int .i64 e] 86 (0, 0))) (hgr : w.grownBy W (some g)) : Rd W g l e :=
  ⟨A, c, hW, hl, bytes_grown hc hgr (bytes_far hg h1 h2 hc), hb, fun ad ha => by
    obtain ⟨cells, hcl⟩ := hu ad ha
    exact ⟨cells, blk_grown hcl hgr (fun q => blk_ne hcl hg (by decide) (Option.some.inj q))⟩⟩
/-! ### Err, Left -/
set_option maxHeartbeats 800000 in
theorem rd_Err (w : World) (g : Nat) (l : List Int) (e : Int) (h : Rd w g l e) :
    Calls Tryd.prog 54 #[.pointer (some ⟨g, 0, none⟩)] w fun en w' => en = .returned (.int .i64 e) ∧ w = w' := by
  obtain ⟨A, c, h1, _⟩ := h
  have hc1 : w.cell? ⟨g, 1, none⟩ = some (.int .i64 e) := blk_cell h1 1
  clear h1
  go_enter Tryd.func54, Tryd.ntmps54
  go_wp2_with fail
  go_ret
  exact ⟨rfl, rfl⟩
set_option maxHeartbeats 800000 in
theorem rd_Left (w : World) (g : Nat) (l : List Int) (e : Int) (h : Rd w g l e) :
    Calls Tryd.prog 57 #[.pointer (some ⟨g, 0, none⟩)] w fun en w' => en = .returned (.int .i64 (l.length : Int)) ∧ w = w' := by
  obtain ⟨A, c, h1, _⟩ := h
  have hc1 : w.cell? ⟨g, 0, none⟩ = some (.slice A l.length c) := blk_cell h1 0
  clear h1
  go_enter Tryd.func57, Tryd.ntmps57
  go_wp2_with fail
  go_ret
  exact ⟨rfl, rfl⟩
/-! ### fail -/
set_option maxHeartbeats 800000 in
theorem rd_fail (w : World) (g : Nat) (l : List Int) (e x : Int) (h : Rd w g l e) :
    Calls Tryd.prog 56 #[.pointer (some ⟨g, 0, none⟩), .int .i64 x] w fun en w' => en = .returned (.tuple #[]) ∧ Rd w' g [] (keepE e x) ∧ w.grownBy w' (some g) := by
  have hlt := h.lt
  obtain ⟨A, c, h1, _⟩ := h
  have hc0 : w.cell? ⟨g, 0, none⟩ = some (.slice A l.length c) := blk_cell h1 0
  have hc1 : w.cell? ⟨g, 1, none⟩ = some (.int .i64 e) := blk_cell h1 1
  have hf0 := blk_frozen h1 0
  have hf1 := blk_frozen h1 1
  have H1 := Aside0.mk h1
  clear h1
  go_enter Tryd.func56, Tryd.ntmps56
  go_wp2_with fail
  refine (cmp_Or _ 2 [e, x] _ (lit_C .i64 w 25 (0, 0) [e, x] (by simp))).mono ?_
  rintro en w1 ⟨rfl, rfl⟩
  rw [orL_two]
  go_wp2_with fail
  go_end0
  refine ⟨rfl, ⟨none, 0, ?_, Nat.le_refl _, Kd.C_nil _ _, bytes_nil, fun ad h => by cases h⟩, ?_⟩
  · have h2 := blk_alloc (blk_set (blk_set H1.out 0 (.slice none 0 0)) 1 (.int .i64 (keepE e x))) (.cells (nums .i64 [e, x]).toArray 25)
    simpa using h2
  · exact (grown_set (grown_set (World.grownBy.refl w _))).trans (World.grownBy_alloc _ _ _)
end Go.Proofs.YtmeblifbkhpdnaaDoor.K
/- Contracts of bits.Reader's next: the next byte, or ErrTrunc. No other conditions. -/
namespace Go.Proofs.YtmeblifbkhpdnaaDoor.K
set_option linter.unusedVariables false
set_option linter.unusedSimpArgs false
open Go.RowKit Go.Proofs.YtmeblifbkhpdnaaDoorW.PrintWords Go.Proofs.YtmeblifbkhpdnaaDoorW.PrintLast Go.Proofs.YtmeblifbkhpdnaaDoorW.PrintMore

set_option maxHeartbeats 1600000 in
theorem rd_next_none (w : World) (g : Nat) (l : List Int) (e : Int) (h : Rd w g l e) (hn : e ≠ 0 ∨ l = []) :
    Calls Tryd.prog 58 #[.pointer (some ⟨g, 0, none⟩)] w fun en w' => en = .returned (.tuple #[.int .u8 0, .bool false]) ∧ Rd w' g [] (keepE e 3) ∧ w.grownBy w' (some g) := by
  have HR := Aside0.mk h
  obtain ⟨A, c, h1, _⟩ := h
  have hc0 : w.cell? ⟨g, 0, none⟩ = some (.slice A l.length c) := blk_cell h1 0
  have hc1 : w.cell? ⟨g, 1, none⟩ = some (.int .i64 e) := blk_cell h1 1
  clear h1
  by_cases he : e = 0
  · have hl : l.length = 0 := by
      rcases hn with h | h
      · exact absurd he h
      · rw [h]; rfl
    clear hn
    subst he
    rw [hl] at hc0
    go_enter Tryd.func58, Tryd.ntmps58
    go_wp2_with fail
    refine (rd_fail _ g l 0 3 HR.out).mono ?_
    rintro en w1 ⟨rfl, hr, hg⟩
    have HR2 := Aside0.mk hr
    have HG := Aside0.mk hg
    clear hr hg
    go_wp2_with fail
    go_ret2
    exact ⟨rfl, HR2.out, HG.out⟩
  · have hb : (e != 0) = true := by rw [bne_iff_ne]; exact he
    have HE := Aside0.mk he
    clear hn he
    go_enter Tryd.func58, Tryd.ntmps58
    go_wp2_with fail
    refine (rd_fail _ g l e 3 HR.out).mono ?_
    rintro en w1 ⟨rfl, hr, hg⟩
    have HR2 := Aside0.mk hr
    have HG := Aside0.mk hg
    clear hr hg
    go_wp2_with fail
    go_ret2
    exact ⟨rfl, HR2.out, HG.out⟩
set_option maxHeartbeats 1600000 in
theorem rd_next_some (w : World) (g : Nat) (x : Int) (l : List Int) (h : Rd w g (x :: l) 0) :
    Calls Tryd.prog 58 #[.pointer (some ⟨g, 0, none⟩)] w fun en w' => en = .returned (.tuple #[.int .u8 x, .bool true]) ∧ Rd w' g l 0 ∧ w.grownBy w' (some g) := by
  obtain ⟨A, c, h1, hc, hC, hB, hU⟩ := h
  have HU := Aside0.mk hU
  clear hU
  have HBY : Aside0 (CrcMath.Bytes l) := ⟨fun z hz => hB z (List.mem_cons_of_mem _ hz)⟩
  clear hB
  rw [List.length_cons] at h1 hc hC
  obtain ⟨ad, e1, hx⟩ := Kd.at_int hC 0 (by omega) (by omega)
  cases e1
  have hz : ad.add (0 : Int).toNat = ad := by
    unfold Addr.add
    split <;> simp_all
  rw [hz] at hx
  have hrd : rd (x :: l) 0 = x := rfl
  rw [hrd] at hx
  clear hrd hz
  have hc0 : w.cell? ⟨g, 0, none⟩ = some (.slice (some ad) (l.length + 1) c) := blk_cell h1 0
  have hc1 : w.cell? ⟨g, 1, none⟩ = some (.int .i64 0) := blk_cell h1 1
  have hf0 := blk_frozen h1 0
  have H1 := Aside0.mk h1
  have HC := Aside0.mk hC
  have hlen := hC.2.1
  clear h1 hC
  obtain ⟨A', hcut, hAC, hcap, hblk⟩ := bytes_drop .i64 (some ad) c (x :: l) 1 (by simp) (by simpa using hc)
  have HC2 := Aside0.mk (hAC w (by simpa using HC.out))
  have HCAP := Aside0.mk hcap
  have HU2 : Aside0 (U8 w A') := ⟨fun ad' h => by obtain ⟨ad2, e1, e2⟩ := hblk ad' h; rw [e2]; exact HU.out ad2 e1⟩
  clear hblk
  have hcut2 : ∀ W : World, (Instr.slice 22 (.slice (some ad) (l.length + 1) c) (some (.int .i64 1)) none none).run Tryd.prog W = .ok (.slice A' l.length (c - 1)) W := by simpa using hcut
  clear hcut hAC hcap hc
  go_enter Tryd.func58, Tryd.ntmps58
  go_wp2_with fail
  go_region
  go_wp2_with fail
  go_ret2
  have hgr : w.grownBy (w.setCell ⟨g, 0, none⟩ (.slice A' l.length (c - 1))).drew (some g) := grown_drew (grown_set (World.grownBy.refl w _))
  refine ⟨rfl, Rd.of_set H1.out (by simp) (by simp) HC2.out HCAP.out HBY.out HU2.out ?_ hgr, hgr⟩
  exact blk_drew (blk_set H1.out 0 (.slice A' l.length (c - 1)))
end Go.Proofs.YtmeblifbkhpdnaaDoor.K
/- The contract of bits.Reader's Num at 8, 16 and 32 bits: the number, highest byte first, or ErrTrunc. No other conditions. -/
namespace Go.Proofs.YtmeblifbkhpdnaaDoor.K
set_option linter.unusedVariables false
set_option linter.unusedSimpArgs false
open Go.RowKit Go.Proofs.YtmeblifbkhpdnaaDoorW.PrintWords Go.Proofs.YtmeblifbkhpdnaaDoorW.PrintLast Go.Proofs.YtmeblifbkhpdnaaDoorW.PrintMore

/-- Bytes as a number, highest first. -/
def be (l : List Int) : Int := l.foldl (fun x c => x * 256 + c) 0
theorem be_snoc (l : List Int) (k : Nat) (h : k < l.length) : be (l.take (k + 1)) = be (l.take k) * 256 + rd l (k : Int) := by
  rw [List.take_succ_eq_append_getElem h, rd_at l k h]
  unfold be
  rw [List.foldl_append]
  rfl
theorem be_range (l : List Int) (hb : CrcMath.Bytes l) : ∀ k, k ≤ l.length → 0 ≤ be (l.take k) ∧ be (l.take k) < 256 ^ k
  | 0, _ => by simp [be]
  | k + 1, hk => by
    have ih := be_range l hb k (by omega)
    have h := hb l[k] (List.getElem_mem (by omega))
    rw [be_snoc l k (by omega), rd_at l k (by omega), Int.pow_succ]
    omega
/-- What Num makes of a reader: the number, the bytes that are left, the error. -/
def rNum (n : Nat) (l : List Int) (e : Int) : Int × List Int × Int := if e ≠ 0 then (0, l, e) else if l.length < n then (0, [], 3) else (be (l.take n), l.drop n, 0)
set_option maxHeartbeats 800000 in
theorem bits_sized (n : Nat) (hn : n = 1 ∨ n = 2 ∨ n = 4) (w : World) : Calls Tryd.prog 55 #[.int .i64 ((8 * n : Nat) : Int)] w fun en w' => en = .returned (.bool true) ∧ w = w' := by
  rcases hn with rfl | rfl | rfl
  all_goals
    go_enter Tryd.func55, Tryd.ntmps55
    go_wp2_with fail
    go_ret
    exact ⟨rfl, rfl⟩
theorem or64 (x c : Int) (h0 : 0 ≤ x) (h1 : x * 256 < 18446744073709551616) (h2 : 0 ≤ c) (h3 : c < 256) : Go.bits .or .u64 (x * 256) c = x * 256 + c := by
  obtain ⟨x, rfl⟩ := Int.eq_ofNat_of_zero_le h0
  obtain ⟨c, rfl⟩ := Int.eq_ofNat_of_zero_le h2
  have hx : x * 256 < 2 ^ 64 := by omega
  have hc : c < 2 ^ 64 := by omega
  have e : ((x : Int) * 256) = ((x * 256 : Nat) : Int) := by simp
  have hw : ∀ n : Int, 0 ≤ n → n < 2 ^ 64 → IntKind.u64.wrap n = n := fun n a b => by
    have : IntKind.u64.wrap n = n % 18446744073709551616 := by simp [IntKind.wrap, IntKind.bits, IntKind.signed]
    rw [this]
    exact Int.emod_eq_of_lt a b
  rw [e, (bits_nat .u64 64 (by decide) hw (x * 256) c hx hc).2]
  have h8 : c < 2 ^ 8 := by omega
  rw [show x * 256 = 2 ^ 8 * x by omega, ← Nat.two_pow_add_eq_or_of_lt h8]
  omega
theorem wrap_u64 (n : Int) (h0 : 0 ≤ n) (h1 : n < 18446744073709551616) : IntKind.u64.wrap n = n := by
  have : IntKind.u64.wrap n = n % 18446744073709551616 := by simp [IntKind.wrap, IntKind.bits, IntKind.signed]
  rw [this]
  exact Int.emod_eq_of_lt h0 h1
/-- One step of Num's value, as the walk has it. -/
theorem num_step (x c : Int) (h0 : 0 ≤ x) (h1 : x * 256 < 18446744073709551616) (h2 : 0 ≤ c) (h3 : c < 256) : Go.bits .or .u64 (IntKind.u64.wrap (x * 256)) (IntKind.u64.wrap c) = x * 256 + c := by
  rw [wrap_u64 c h2 (by omega), wrap_u64 (x * 256) (by omega) h1, or64 x c h0 h1 h2 h3]
theorem be_one (c : Int) : be [c] = c := by simp [be]
set_option maxHeartbeats 1600000 in
theorem rd_Num (n : Nat) (hn : n = 1 ∨ n = 2 ∨ n = 4) (w : World) (g : Nat) (l : List Int) (e : Int) (h : Rd w g l e) (s : Int) (hs : s = ((8 * n : Nat) : Int)) :
    Calls Tryd.prog 25 #[.pointer (some ⟨g, 0, none⟩), .int .i64 s] w fun en w' => en = .returned (.int .u64 (rNum n l e).1) ∧ Rd w' g (rNum n l e).2.1 (rNum n l e).2.2 ∧ w.grownBy w' (some g) := by
  have HR := Aside0.mk h
  have HBY := Aside0.mk h.bytes
  clear h
  have hn4 : n ≤ 4 := by omega
  have hn1 : 1 ≤ n := by omega
  have HS := Aside0.mk hs
  have HN := Aside0.mk hn
  have hdv : wrap64 (s.tdiv 8) = (n : Int) := by
    rw [hs, Int.tdiv_eq_ediv_of_nonneg (by omega), wrap64_in (by omega) (by omega)]
    omega
  clear hs hn
  by_cases he : e = 0
  · subst he
    by_cases hl : l.length < n
    · have e1 : rNum n l 0 = (0, [], 3) := by unfold rNum; rw [if_neg (by simp), if_pos hl]
      rw [e1]
      have hb : decide (l.length < n) = true := by simpa using hl
      clear hl e1
      go_enter Tryd.func25, Tryd.ntmps25
      go_wp2_with fail
      refine (rd_Err _ g l 0 HR.out).mono ?_
      rintro en w1 ⟨rfl, rfl⟩
      go_wp2_with fail
      rw [HS.out]
      refine (bits_sized n HN.out _).mono ?_
      rintro en w1 ⟨rfl, rfl⟩
      rw [← HS.out]
      go_wp2_with fail
      refine (rd_Left _ g l 0 HR.out).mono ?_
      rintro en w1 ⟨rfl, rfl⟩
      go_wp2_with fail
      refine (rd_fail _ g l 0 3 HR.out).mono ?_
      rintro en w1 ⟨rfl, hr, hg⟩
      have HR2 := Aside0.mk hr
      have HG := Aside0.mk hg
      clear hr hg
      go_wp2_with fail
      go_ret
      exact ⟨rfl, HR2.out, HG.out⟩
    · have e1 : rNum n l 0 = (be (l.take n), l.drop n, 0) := by unfold rNum; rw [if_neg (by simp), if_neg hl]
      rw [e1]
      have hb : decide (l.length < n) = false := by simpa using hl
      have hbI : decide ((l.length : Int) < (n : Int)) = false := by simp; omega
      have hle : n ≤ l.length := by omega
      clear hl e1
      go_enter Tryd.func25, Tryd.ntmps25
      go_wp2_with fail
      refine (rd_Err _ g l 0 HR.out).mono ?_
      rintro en w1 ⟨rfl, rfl⟩
      go_wp2_with fail
      rw [HS.out]
      refine (bits_sized n HN.out _).mono ?_
      rintro en w1 ⟨rfl, rfl⟩
      rw [← HS.out]
      go_wp2_with fail
      refine (rd_Left _ g l 0 HR.out).mono ?_
      rintro en w1 ⟨rfl, rfl⟩
      go_wp2_with fail
      rw [hdv]
      go_loopw [4, 27] (fun x v wr => ∃ k : Nat, k ≤ n ∧ v = .int .i64 k ∧ x = .int .u64 (be (l.take k)) ∧ Aside0 (Rd wr g (l.drop k) 0) ∧ Aside0 (w.grownBy wr (some g))) (fun _ v _ => n - (intOf v).toNat)
      case atStart => exact ⟨0, by omega, rfl, rfl, HR, ⟨World.grownBy.refl w _⟩⟩
      case round =>
        obtain ⟨k, hk, rfl, rfl, HR2, HG⟩ := hrel
        by_cases hlt : k < n
        · have hb2 : decide ((k : Int) < (n : Int)) = true := by simp; omega
          have HS2 := Aside0.mk (be_snoc l k (by omega))
          have hd := List.drop_eq_getElem_cons (show k < l.length by omega)
          have hr2 := HR2.out
          rw [hd] at hr2
          have hrg := be_range l HBY.out k (by omega)
          have hxb := HBY.out l[k] (List.getElem_mem (by omega))
          have hp : (256 : Int) ^ k ≤ 16777216 := by
            have : k = 0 ∨ k = 1 ∨ k = 2 ∨ k = 3 := by omega
            rcases this with rfl | rfl | rfl | rfl <;> decide
          have hst := num_step (be (l.take k)) l[k] hrg.1 (by omega) hxb.1 hxb.2
          rw [rd_at l k (by omega)] at HS2
          generalize l[k] = x at *
          generalize be (l.take k) = y at *
          have HR3 := Aside0.mk hr2
          clear hr2 hd hrg hxb hp
          go_wp2_with fail
          refine (rd_next_some _ g x _ HR3.out).mono ?_
          rintro en w1 ⟨rfl, hr, hg⟩
          have HR4 := Aside0.mk hr
          have HG4 := Aside0.mk (HG.out.trans hg)
          clear hr hg HG
          go_wp2_with fail
          go_roundw
          case rel => exact ⟨k + 1, by omega, by go_num, by rw [HS2.out], HR4, HG4⟩
          case measure => simp [intOf]; omega
        · have hb2 : decide ((k : Int) < (n : Int)) = false := by simp; omega
          obtain rfl : k = n := by omega
          go_wp2_with fail
          go_ret
          exact ⟨rfl, HR2.out, HG.out⟩
  · have e1 : rNum n l e = (0, l, e) := by unfold rNum; rw [if_pos he]
    rw [e1]
    have hb : (e != 0) = true := by rw [bne_iff_ne]; exact he
    clear he e1
    go_enter Tryd.func25, Tryd.ntmps25
    go_wp2_with fail
    refine (rd_Err _ g l e HR.out).mono ?_
    rintro en w1 ⟨rfl, rfl⟩
    go_wp2_with fail
    go_ret
    exact ⟨rfl, HR.out, World.grownBy.refl w _⟩
end Go.Proofs.YtmeblifbkhpdnaaDoor.K
/- The contract of bits.Reader's Varint. No other conditions. -/
namespace Go.Proofs.YtmeblifbkhpdnaaDoor.K
set_option linter.unusedVariables false
set_option linter.unusedSimpArgs false
open Go.RowKit Go.Proofs.YtmeblifbkhpdnaaDoorW.PrintWords Go.Proofs.YtmeblifbkhpdnaaDoorW.PrintLast Go.Proofs.YtmeblifbkhpdnaaDoorW.PrintMore

/-- What Varint makes of bytes, from its i-th one on, u being what came so far: the number, the bytes that are left, the error. -/
def vr : Nat → Int → List Int → Int × List Int × Int
  | _, _, [] => (0, [], 3)
  | i, u, c :: t => if i = 9 ∧ 1 < c then (0, [], 9) else if 0 < i ∧ c = 0 then (0, [], 4) else if c < 128 then (u + c % 128 * 128 ^ i, t, 0) else vr (i + 1) (u + c % 128 * 128 ^ i) t
def rVar (l : List Int) (e : Int) : Int × List Int × Int := if e ≠ 0 then (0, [], e) else vr 0 0 l
theorem and127 (c : Int) (h0 : 0 ≤ c) (h1 : c < 256) : Go.bits .and .u8 c 127 = c % 128 := bits_mask .u8 8 (by decide) (fun n a b => by rw [IntKind.wrap_u8]; exact Int.emod_eq_of_lt a b) 7 (by decide) c h0 h1
theorem or_shift (u d : Int) (i : Nat) (hu0 : 0 ≤ u) (hu : u < 128 ^ i) (hi : i ≤ 9) (hd0 : 0 ≤ d) (hd : d * 128 ^ i < 18446744073709551616) : Go.bits .or .u64 u (d * 128 ^ i) = u + d * 128 ^ i := by
  obtain ⟨u, rfl⟩ := Int.eq_ofNat_of_zero_le hu0
  obtain ⟨d, rfl⟩ := Int.eq_ofNat_of_zero_le hd0
  have ep : (128 : Int) ^ i = ((2 ^ (7 * i) : Nat) : Int) := by
    rw [Nat.pow_mul]
    simp
  rw [ep] at hu hd ⊢
  have hu' : u < 2 ^ (7 * i) := Int.ofNat_lt.1 hu
  have e : ((d : Int) * ((2 ^ (7 * i) : Nat) : Int)) = ((d * 2 ^ (7 * i) : Nat) : Int) := (Int.natCast_mul _ _).symm
  rw [e] at hd ⊢
  have hd' : d * 2 ^ (7 * i) < 2 ^ 64 := Int.ofNat_lt.1 hd
  have hw : ∀ n : Int, 0 ≤ n → n < 2 ^ 64 → IntKind.u64.wrap n = n := fun n a b => wrap_u64 n a b
  have hu2 : u < 2 ^ 64 := Nat.lt_of_lt_of_le hu' (Nat.pow_le_pow_right (by omega) (by omega))
  rw [(bits_nat .u64 64 (by decide) hw u (d * 2 ^ (7 * i)) hu2 hd').2, Nat.or_comm, Nat.mul_comm d, ← Nat.two_pow_add_eq_or_of_lt hu']
  omega
theorem pow128 (i : Nat) : (2 : Int) ^ (7 * i) = 128 ^ i := by
  rw [Int.pow_mul]
  rfl
theorem pow128_le (i : Nat) (h : i ≤ 9) : (128 : Int) ^ i ≤ 9223372036854775808 ∧ (i ≤ 8 → (128 : Int) ^ i ≤ 72057594037927936) := by
  have : i = 0 ∨ i = 1 ∨ i = 2 ∨ i = 3 ∨ i = 4 ∨ i = 5 ∨ i = 6 ∨ i = 7 ∨ i = 8 ∨ i = 9 := by omega
  rcases this with rfl | rfl | rfl | rfl | rfl | rfl | rfl | rfl | rfl | rfl <;> decide
/-- One step of Varint's value, as the walk has it. -/
theorem vr_step (u c : Int) (i : Nat) (hi : i ≤ 9) (hu0 : 0 ≤ u) (hu : u < 128 ^ i) (hc0 : 0 ≤ c) (hc1 : c < 256) (h9 : i = 9 → c ≤ 1) :
    Go.bits .or .u64 u (IntKind.u64.wrap (IntKind.u64.wrap (Go.bits .and .u8 c 127) * 2 ^ (7 * i))) = u + c % 128 * 128 ^ i ∧ 0 ≤ u + c % 128 * 128 ^ i ∧ (u + c % 128 * 128 ^ i < 128 ^ (i + 1)) := by
  rw [and127 c hc0 hc1, wrap_u64 (c % 128) (by omega) (by omega), pow128]
  have hp := pow128_le i hi
  have hpos : (0 : Int) < 128 ^ i := Int.pow_pos (by omega)
  have hd0 : 0 ≤ c % 128 := by omega
  have hd1 : c % 128 ≤ 127 := by omega
  have hmul : 0 ≤ c % 128 * 128 ^ i := Int.mul_nonneg hd0 (by omega)
  have hlt : c % 128 * 128 ^ i < 18446744073709551616 := by
    by_cases h : i = 9
    · have h1 : c % 128 ≤ 1 := by have := h9 h; omega
      have := Int.mul_le_mul_of_nonneg_right h1 (show (0 : Int) ≤ 128 ^ i by omega)
      omega
    · have := Int.mul_le_mul_of_nonneg_right hd1 (show (0 : Int) ≤ 128 ^ i by omega)
      have := hp.2 (by omega)
      omega
  rw [wrap_u64 _ hmul hlt, or_shift u (c % 128) i hu0 hu hi hd0 hlt]
  refine ⟨rfl, by omega, ?_⟩
  have := Int.mul_le_mul_of_nonneg_right hd1 (show (0 : Int) ≤ 128 ^ i by omega)
  rw [Int.pow_succ]
  omega
set_option maxHeartbeats 1600000 in
theorem rd_Varint (w : World) (g : Nat) (l : List Int) (e : Int) (h : Rd w g l e) :
    Calls Tryd.prog 59 #[.pointer (some ⟨g, 0, none⟩)] w fun en w' => en = .returned (.int .u64 (rVar l e).1) ∧ Rd w' g (rVar l e).2.1 (rVar l e).2.2 ∧ w.grownBy w' (some g) := by
  have HR := Aside0.mk h
  have HBY := Aside0.mk h.bytes
  clear h
  by_cases he : e = 0
  · subst he
    have e1 : rVar l 0 = vr 0 0 l := by unfold rVar; rw [if_neg (by simp)]
    rw [e1]
    clear e1
    go_enter Tryd.func59, Tryd.ntmps59
    go_wp2_with fail
    go_loopw [2, 3] (fun x v wr => ∃ (i : Nat) (u : Int) (t : List Int), i ≤ 9 ∧ v = .int .i64 ((7 * i : Nat) : Int) ∧ x = .int .u64 u ∧ Aside0 (0 ≤ u ∧ u < 128 ^ i) ∧ Aside0 (vr i u t = vr 0 0 l) ∧ Aside0 (Rd wr g t 0) ∧ Aside0 (w.grownBy wr (some g))) (fun _ v _ => 70 - (intOf v).toNat)
    case atStart => exact ⟨0, 0, l, by omega, rfl, rfl, ⟨by simp⟩, ⟨rfl⟩, HR, ⟨World.grownBy.refl w _⟩⟩
    case round =>
      obtain ⟨i, u, t, hi, rfl, rfl, HU, HV, HR2, HG⟩ := hrel
      cases t with
      | nil =>
        go_wp2_with fail
        refine (rd_next_none _ g [] 0 HR2.out (.inr rfl)).mono ?_
        rintro en w1 ⟨rfl, hr, hg⟩
        have HR4 := Aside0.mk hr
        have HG4 := Aside0.mk (HG.out.trans hg)
        clear hr hg HG
        go_wp2_with fail
        go_ret
        have e := HV.out
        simp only [vr] at e
        rw [← e]
        exact ⟨rfl, HR4.out, HG4.out⟩
      | cons c t =>
        obtain ⟨hc0, hc1⟩ := HR2.out.bytes c (by simp)
        by_cases hA : i = 9 ∧ 1 < c
        · obtain ⟨rfl, h1⟩ := hA
          have e := HV.out
          rw [vr, if_pos ⟨rfl, h1⟩] at e
          have HE := Aside0.mk e
          clear e
          go_wp2_with fail
          refine (rd_next_some _ g c t HR2.out).mono ?_
          rintro en w1 ⟨rfl, hr, hg⟩
          have HR4 := Aside0.mk hr
          have HG4 := Aside0.mk (HG.out.trans hg)
          clear hr hg HG
          go_wp2_with fail
          refine (rd_fail _ g t 0 9 HR4.out).mono ?_
          rintro en w2 ⟨rfl, hr, hg⟩
          have HR5 := Aside0.mk hr
          have HG5 := Aside0.mk (HG4.out.trans hg)
          clear hr hg HG4
          go_wp2_with fail
          go_ret
          rw [← HE.out]
          exact ⟨rfl, HR5.out, HG5.out⟩
        by_cases hB : 0 < i ∧ c = 0
        · obtain ⟨h1, rfl⟩ := hB
          have e := HV.out
          rw [vr, if_neg hA, if_pos ⟨h1, rfl⟩] at e
          have HE := Aside0.mk e
          clear e hA
          go_wp2_with fail
          refine (rd_next_some _ g 0 t HR2.out).mono ?_
          rintro en w1 ⟨rfl, hr, hg⟩
          have HR4 := Aside0.mk hr
          have HG4 := Aside0.mk (HG.out.trans hg)
          clear hr hg HG
          have h7 : (0 : Int) < 7 * (i : Int) := by omega
          go_wp2_with fail
          all_goals
            refine (rd_fail _ g t 0 4 HR4.out).mono ?_
            rintro en w2 ⟨rfl, hr, hg⟩
            have HR5 := Aside0.mk hr
            have HG5 := Aside0.mk (HG4.out.trans hg)
            clear hr hg HG4
            go_wp2_with fail
            go_ret
            rw [← HE.out]
            exact ⟨rfl, HR5.out, HG5.out⟩
        have hst := vr_step u c i hi HU.out.1 HU.out.2 hc0 hc1 (fun h => by omega)
        obtain ⟨hs1, hs2, hs3⟩ := hst
        have e := HV.out
        rw [vr, if_neg hA, if_neg hB] at e
        have HA := Aside0.mk hA
        have HB := Aside0.mk hB
        have HS := Aside0.mk hs2
        have HS3 := Aside0.mk hs3
        generalize u + c % 128 * 128 ^ i = y at *
        clear hA hB hs2 hs3 HU HV
        have hw : 9 ≤ i ∧ c ≤ 1 ∧ 1 ≤ c ∨ i ≤ 8 ∧ 0 < i ∧ c ≠ 0 ∨ i ≤ 0 := by
          have := HA.out
          have := HB.out
          omega
        by_cases hC : c < 128
        · rw [if_pos hC] at e
          have HE := Aside0.mk e
          clear e
          rcases hw with ⟨h9, h1, h2⟩ | ⟨h8, h0, hz⟩ | h0
          · have h7 : (0 : Int) < 7 * (i : Int) := by omega
            have h77 : (64 : Int) < 7 * (i : Int) + 7 := by omega
            have hz2 : (c == 0) = false := beq_eq_false_iff_ne.2 (by omega)
            go_wp2_with fail
            refine (rd_next_some _ g c t HR2.out).mono ?_
            rintro en w1 ⟨rfl, hr, hg⟩
            have HR4 := Aside0.mk hr
            have HG4 := Aside0.mk (HG.out.trans hg)
            clear hr hg HG
            go_wp2_with fail
            go_ret
            rw [← HE.out]
            exact ⟨rfl, HR4.out, HG4.out⟩
          · have h7 : (0 : Int) < 7 * (i : Int) := by omega
            have h77 : 7 * (i : Int) + 7 ≤ 64 := by omega
            have hz2 : (c == 0) = false := beq_eq_false_iff_ne.2 hz
            clear hz
            go_wp2_with fail
            refine (rd_next_some _ g c t HR2.out).mono ?_
            rintro en w1 ⟨rfl, hr, hg⟩
            have HR4 := Aside0.mk hr
            have HG4 := Aside0.mk (HG.out.trans hg)
            clear hr hg HG
            go_wp2_with fail
            go_ret
            rw [← HE.out]
            exact ⟨rfl, HR4.out, HG4.out⟩
          · have h7 : 7 * (i : Int) ≤ 0 := by omega
            have h77 : 7 * (i : Int) + 7 ≤ 64 := by omega
            go_wp2_with fail
            refine (rd_next_some _ g c t HR2.out).mono ?_
            rintro en w1 ⟨rfl, hr, hg⟩
            have HR4 := Aside0.mk hr
            have HG4 := Aside0.mk (HG.out.trans hg)
            clear hr hg HG
            go_wp2_with fail
            go_ret
            rw [← HE.out]
            exact ⟨rfl, HR4.out, HG4.out⟩
        · rw [if_neg hC] at e
          have HE := Aside0.mk e
          clear e
          rcases hw with ⟨h9, h1, h2⟩ | ⟨h8, h0, hz⟩ | h0
          · omega
          · have h7 : (0 : Int) < 7 * (i : Int) := by omega
            have h77 : 7 * (i : Int) + 7 ≤ 64 := by omega
            have hz2 : (c == 0) = false := beq_eq_false_iff_ne.2 hz
            clear hz
            go_wp2_with fail
            refine (rd_next_some _ g c t HR2.out).mono ?_
            rintro en w1 ⟨rfl, hr, hg⟩
            have HR4 := Aside0.mk hr
            have HG4 := Aside0.mk (HG.out.trans hg)
            clear hr hg HG
            go_wp2_with fail
            go_roundw
            case rel => exact ⟨i + 1, y, t, by omega, by go_num, rfl, ⟨HS.out, HS3.out⟩, HE, HR4, HG4⟩
            case measure => simp [intOf]; omega
          · have h7 : 7 * (i : Int) ≤ 0 := by omega
            have h77 : 7 * (i : Int) + 7 ≤ 64 := by omega
            go_wp2_with fail
            refine (rd_next_some _ g c t HR2.out).mono ?_
            rintro en w1 ⟨rfl, hr, hg⟩
            have HR4 := Aside0.mk hr
            have HG4 := Aside0.mk (HG.out.trans hg)
            clear hr hg HG
            go_wp2_with fail
            go_roundw
            case rel => exact ⟨i + 1, y, t, by omega, by go_num, rfl, ⟨HS.out, HS3.out⟩, HE, HR4, HG4⟩
            case measure => simp [intOf]; omega
  · have e1 : rVar l e = (0, [], e) := by unfold rVar; rw [if_pos he]
    rw [e1]
    have HE := Aside0.mk he
    have h0 : (0 : Int) ≤ ((7 * 0 : Nat) : Int) := by omega
    clear he e1
    go_enter Tryd.func59, Tryd.ntmps59
    go_wp2_with fail
    refine wp_loop_rounds 1 ?_
    rw [rounds_succ]
    go_wp2_with fail
    refine (rd_next_none _ g l e HR.out (.inl HE.out)).mono ?_
    rintro en w1 ⟨rfl, hr, hg⟩
    have HR4 := Aside0.mk hr
    have HG4 := Aside0.mk hg
    clear hr hg
    have hk : keepE e 3 = e := by unfold keepE; rw [if_neg HE.out]
    rw [hk] at HR4
    clear hk
    go_wp2_with fail
    go_ret
    exact ⟨rfl, HR4.out, HG4.out⟩
end Go.Proofs.YtmeblifbkhpdnaaDoor.K
/- Contracts of bits.Reader's Text and End, and of Read. No conditions but the sizes that memory allows. -/
namespace Go.Proofs.YtmeblifbkhpdnaaDoor.K
set_option linter.unusedVariables false
set_option linter.unusedSimpArgs false
open Go.RowKit Go.Proofs.YtmeblifbkhpdnaaDoorW.PrintWords Go.Proofs.YtmeblifbkhpdnaaDoorW.PrintLast Go.Proofs.YtmeblifbkhpdnaaDoorW.PrintMore

/-! ### Read -/
theorem R_own_some {α : Type} {d : Kd α} {e base n c : Nat} {ok : Nat → Prop} {w : World} {ad : Addr} {l : List α} (h : d.R e w base ok (.slice (some ad) n c) l) : (Value.slice (some ad) n c).ownBlock = some ad.block := by
  obtain ⟨inner, _, h2⟩ := Kd.R_own h
  rcases h2 with ⟨h2, _⟩ | ⟨g, cap, cur, h2, _⟩
  · cases h2
  · injection h2 with h2 _ _
    injection h2 with h2
    subst h2
    rfl
set_option maxHeartbeats 800000 in
theorem bits_Read (w : World) (A0 : Option Addr) (c0 : Nat) (l : List Int) (hC : Kd.C (Kd.int .u8) w A0 l.length l) (hc : l.length ≤ c0) (hb : CrcMath.Bytes l) (hl : l.length < 140737488355328) :
    Calls Tryd.prog 24 #[.slice A0 l.length c0] w fun en w' => ∃ g, en = .returned (.pointer (some ⟨g, 0, none⟩)) ∧ w.heap.size ≤ g ∧ Rd w' g l 0 ∧ Below w.heap.size w w' := by
  have HC := Aside0.mk hC
  have HCC := Aside0.mk hc
  have HF : Aside0 (clone.f l = some l) := ⟨by unfold clone.f; rw [if_pos hl]⟩
  have HB := Aside0.mk hb
  clear hC hc hb hl
  go_enter Tryd.func24, Tryd.ntmps24
  go_wp2_with fail
  refine (clone.calls A0 c0 l l _ HC.out HCC.out HF.out).mono ?_
  rintro en w1 ⟨v, rfl, ho, hbb⟩
  obtain ⟨A, c, rfl, hcc, hr⟩ := R_C ho
  have HR := Aside0.mk hr
  have HBB := Aside0.mk hbb
  have HK := Aside0.mk hcc
  have HU : Aside0 (U8 w1 A) := ⟨fun ad ha => by subst ha; exact Kd.R_typed ho ad.block (R_own_some ho)⟩
  clear hr hbb hcc ho
  go_wp2_with fail
  go_ret
  have hA : Kd.C (Kd.int .u8) (w1.alloc (.cells #[.slice A l.length c, .int .i64 0] 86)) A l.length l := Kd.C_alloc HR.out _
  exact ⟨w1.heap.size, rfl, HBB.out.size, ⟨A, c, blk_new w1 _, HK.out, hA, HB.out, fun ad ha => by obtain ⟨cl, h⟩ := HU.out ad ha; exact ⟨cl, blk_alloc h _⟩⟩, below_alloc HBB.out _⟩
/-! ### End -/
/-- What End answers. -/
def rEnd (l : List Int) (e : Int) : Int := if e = 0 ∧ 0 < l.length then 4 else e
set_option maxHeartbeats 800000 in
theorem rd_End (w : World) (g : Nat) (l : List Int) (e : Int) (h : Rd w g l e) :
    Calls Tryd.prog 63 #[.pointer (some ⟨g, 0, none⟩)] w fun en w' => en = .returned (.int .i64 (rEnd l e)) ∧ w = w' := by
  have HR := Aside0.mk h
  clear h
  by_cases he : e = 0
  · subst he
    by_cases hl : 0 < l.length
    · have e1 : rEnd l 0 = 4 := by unfold rEnd; rw [if_pos ⟨rfl, hl⟩]
      rw [e1]
      have h2 : (0 : Int) < (l.length : Int) := by omega
      clear e1
      go_enter Tryd.func63, Tryd.ntmps63
      go_wp2_with fail
      refine (rd_Err _ g l 0 HR.out).mono ?_
      rintro en w1 ⟨rfl, rfl⟩
      go_wp2_with fail
      refine (rd_Left _ g l 0 HR.out).mono ?_
      rintro en w1 ⟨rfl, rfl⟩
      go_wp2_with fail
      go_ret
      exact ⟨rfl, rfl⟩
    · have e1 : rEnd l 0 = 0 := by unfold rEnd; rw [if_neg (fun h => hl h.2)]
      rw [e1]
      have h2 : (l.length : Int) ≤ 0 := by omega
      clear e1
      go_enter Tryd.func63, Tryd.ntmps63
      go_wp2_with fail
      refine (rd_Err _ g l 0 HR.out).mono ?_
      rintro en w1 ⟨rfl, rfl⟩
      go_wp2_with fail
      refine (rd_Left _ g l 0 HR.out).mono ?_
      rintro en w1 ⟨rfl, rfl⟩
      go_wp2_with fail
      refine (rd_Err _ g l 0 HR.out).mono ?_
      rintro en w1 ⟨rfl, rfl⟩
      go_wp2_with fail
      go_ret
      exact ⟨rfl, rfl⟩
  · have e1 : rEnd l e = e := by unfold rEnd; rw [if_neg (fun h => he h.1)]
    rw [e1]
    have hb : (e == 0) = false := beq_eq_false_iff_ne.2 he
    clear he e1
    go_enter Tryd.func63, Tryd.ntmps63
    go_wp2_with fail
    refine (rd_Err _ g l e HR.out).mono ?_
    rintro en w1 ⟨rfl, rfl⟩
    go_wp2_with fail
    refine (rd_Err _ g l e HR.out).mono ?_
    rintro en w1 ⟨rfl, rfl⟩
    go_wp2_with fail
    go_ret
    exact ⟨rfl, rfl⟩
/-! ### Text -/
theorem vr_range : ∀ (t : List Int) (i : Nat) (u : Int), CrcMath.Bytes t → i ≤ 9 → 0 ≤ u → u < 128 ^ i → 0 ≤ (vr i u t).1 ∧ (vr i u t).1 < 18446744073709551616 ∧ CrcMath.Bytes (vr i u t).2.1 ∧ (vr i u t).2.1.length ≤ t.length
  | [], i, u, _, _, _, _ => by
    rw [vr]
    exact ⟨by decide, by decide, bytes_nil, Nat.le_refl _⟩
  | c :: t, i, u, hb, hi, h0, h1 => by
    have hc := hb c (by simp)
    have hbt : CrcMath.Bytes t := fun z hz => hb z (List.mem_cons_of_mem _ hz)
    rw [vr]
    split
    · exact ⟨by decide, by decide, bytes_nil, by simp⟩
    · rename_i hA
      split
      · exact ⟨by decide, by decide, bytes_nil, by simp⟩
      · obtain ⟨_, s2, s3⟩ := vr_step u c i hi h0 h1 hc.1 hc.2 (fun h => by omega)
        have hp := pow128_le i hi
        split
        · refine ⟨s2, ?_, hbt, by simp⟩
          have hd1 : c % 128 ≤ 127 := by omega
          have hd0 : 0 ≤ c % 128 := by omega
          by_cases h : i = 9
          · have h1 : c % 128 ≤ 1 := by omega
            have := Int.mul_le_mul_of_nonneg_right h1 (show (0 : Int) ≤ 128 ^ i by omega)
            show u + c % 128 * 128 ^ i < _
            omega
          · have := Int.mul_le_mul_of_nonneg_right hd1 (show (0 : Int) ≤ 128 ^ i by omega)
            have := hp.2 (by omega)
            show u + c % 128 * 128 ^ i < _
            omega
        · rename_i hC hB
          have := vr_range t (i + 1) (u + c % 128 * 128 ^ i) hbt (by omega) s2 s3
          exact ⟨this.1, this.2.1, this.2.2.1, Nat.le_trans this.2.2.2 (by simp)⟩
theorem rVar_range (l : List Int) (e : Int) (hb : CrcMath.Bytes l) : 0 ≤ (rVar l e).1 ∧ (rVar l e).1 < 18446744073709551616 ∧ CrcMath.Bytes (rVar l e).2.1 ∧ (rVar l e).2.1.length ≤ l.length := by
  unfold rVar
  split
  · exact ⟨Int.le_refl _, (by decide : (0 : Int) < 18446744073709551616), bytes_nil, by simp⟩
  · exact vr_range l 0 0 hb (by omega) (by omega) (by omega)
/-- What Text makes of a reader: the text, the bytes that are left, the error. -/
def rText (l : List Int) (e : Int) : List Int × List Int × Int :=
  if (rVar l e).2.2 ≠ 0 then ([], (rVar l e).2.1, (rVar l e).2.2) else if ((rVar l e).2.1.length : Int) < (rVar l e).1 then ([], [], 3) else ((rVar l e).2.1.take (rVar l e).1.toNat, (rVar l e).2.1.drop (rVar l e).1.toNat, 0)
set_option maxHeartbeats 1600000 in
theorem rd_Text (w : World) (g : Nat) (l : List Int) (e : Int) (h : Rd w g l e) (hlen : l.length < 140737488355328) :
    Calls Tryd.prog 62 #[.pointer (some ⟨g, 0, none⟩)] w fun en w' => ∃ v, en = .returned v ∧ Kd.R (Kd.int .u8) 5 w' w.heap.size (fun _ => True) v (rText l e).1 ∧ Rd w' g (rText l e).2.1 (rText l e).2.2 ∧ w.grownBy w' (some g) := by
  have HR := Aside0.mk h
  have hrg := rVar_range l e h.bytes
  clear h
  have HV := rd_Varint w g l e HR.out
  obtain ⟨v, hv⟩ : ∃ v, v = rVar l e := ⟨_, rfl⟩
  unfold rText
  rw [← hv] at HV hrg ⊢
  clear hv
  obtain ⟨n, t, x⟩ := v
  simp only at HV hrg ⊢
  obtain ⟨h0, h1, h2, h3⟩ := hrg
  have HBY := Aside0.mk h2
  have HV' := Aside0.mk HV
  have HLN := Aside0.mk (show t.length < 140737488355328 by omega)
  clear HV h2
  by_cases hx : x = 0
  · subst hx
    rw [if_neg (by simp)]
    obtain ⟨n, rfl⟩ := Int.eq_ofNat_of_zero_le h0
    by_cases hl : (t.length : Int) < (n : Int)
    · rw [if_pos hl]
      have hlI : decide ((t.length : Int) < (n : Int)) = true := by simpa using hl
      have hlN : decide (t.length < n) = true := by simp; omega
      have hw : IntKind.u64.wrap (t.length : Int) = (t.length : Int) := wrap_u64 _ (by omega) (by omega)
      clear hl h0 h1 h3 hlen
      go_enter Tryd.func62, Tryd.ntmps62
      go_wp2_with fail
      refine HV'.out.mono ?_
      rintro en w1 ⟨rfl, hr, hg⟩
      have HR1 := Aside0.mk hr
      have HG1 := Aside0.mk hg
      clear hr hg
      go_wp2_with fail
      refine (rd_Err _ g t 0 HR1.out).mono ?_
      rintro en w2 ⟨rfl, rfl⟩
      go_wp2_with fail
      refine (rd_Left _ g t 0 HR1.out).mono ?_
      rintro en w2 ⟨rfl, rfl⟩
      go_wp2_with fail
      refine (rd_fail _ g t 0 3 HR1.out).mono ?_
      rintro en w2 ⟨rfl, hr, hg⟩
      have HR2 := Aside0.mk hr
      have HG2 := Aside0.mk (HG1.out.trans hg)
      clear hr hg
      go_wp2_with fail
      go_ret
      exact ⟨_, rfl, Kd.R_nil _ _ _ _ _, HR2.out, HG2.out⟩
    · rw [if_neg hl]
      have hlI : decide ((t.length : Int) < (n : Int)) = false := by simpa using hl
      have hlN : decide (t.length < n) = false := by simp; omega
      have hw : IntKind.u64.wrap (t.length : Int) = (t.length : Int) := wrap_u64 _ (by omega) (by omega)
      have HNL := Aside0.mk (show n ≤ t.length by omega)
      rw [Int.toNat_natCast]
      clear hl h0 h1 h3 hlen
      go_enter Tryd.func62, Tryd.ntmps62
      go_wp2_with fail
      refine HV'.out.mono ?_
      rintro en w1 ⟨rfl, hr, hg⟩
      have HR1 := Aside0.mk hr
      have HG1 := Aside0.mk hg
      clear hr hg
      go_wp2_with fail
      refine (rd_Err _ g t 0 HR1.out).mono ?_
      rintro en w2 ⟨rfl, rfl⟩
      go_wp2_with fail
      refine (rd_Left _ g t 0 HR1.out).mono ?_
      rintro en w2 ⟨rfl, rfl⟩
      obtain ⟨A, c, hb1, hb2, hb3, _, hu1⟩ := HR1.out
      have hc0 : w1.cell? ⟨g, 0, none⟩ = some (.slice A t.length c) := blk_cell hb1 0
      obtain ⟨hcut, htk, hlt⟩ := bytes_take .u64 A c t n HNL.out hb2
      obtain ⟨A', hcut2, hdr, hcap, hblk⟩ := bytes_drop .u64 A c t n HNL.out hb2
      have HB1 := Aside0.mk hb1
      have HB3 := Aside0.mk hb3
      have HTK := Aside0.mk (htk w1 hb3)
      have HDR := Aside0.mk (hdr w1 hb3)
      have HCAP := Aside0.mk hcap
      have HU2 : Aside0 (U8 w1 A') := ⟨fun ad' h => by obtain ⟨ad2, e1, e2⟩ := hblk ad' h; rw [e2]; exact hu1 ad2 e1⟩
      clear hblk hu1
      have HCL := Aside0.mk (fun W (hR : Kd.C (Kd.int .u8) W A (t.take n).length (t.take n)) => clone.calls A c (t.take n) (t.take n) W hR (by have := HNL.out; omega) (by have := HLN.out; have := HNL.out; unfold clone.f; rw [if_pos (by omega)]))
      rw [hlt] at HTK HCL
      clear hb1 hb2 hb3 htk hdr hcap hlt
      go_wp2_with fail
      refine (HCL.out _ HTK.out).mono ?_
      rintro en w2 ⟨v, rfl, ho, hbb⟩
      have HO := Aside0.mk (Kd.R_newB ho HB1.out)
      have HB2 := Aside0.mk (blk_below HB1.out hbb)
      have HBB := Aside0.mk hbb
      have hc1 : w2.cell? ⟨g, 0, none⟩ = some (.slice A t.length c) := blk_cell HB2.out 0
      have hf1 := blk_frozen HB2.out 0
      have HDR2 := Aside0.mk (Kd.C_below HDR.out hbb)
      clear ho hbb hc0
      go_wp2_with fail
      go_ret
      have hgr : w1.grownBy (w2.setCell ⟨g, 0, none⟩ (.slice A' (t.length - n) (c - n))) (some g) := grown_set ⟨HBB.out.os, HBB.out.tape, HBB.out.output, HBB.out.size, fun i hi _ => HBB.out.block i hi⟩
      have hl3 : (t.drop n).length = t.length - n := List.length_drop
      refine ⟨_, rfl, ?_, ?_, HG1.out.trans hgr⟩
      · exact Kd.R_lower (Kd.R_mono (Kd.R_far HO.out (p := ⟨g, 0, none⟩) (fun k hk => hk.2) _) (fun _ _ => trivial)) HG1.out.size
      · have hs : (w2.setCell ⟨g, 0, none⟩ (.slice A' (t.length - n) (c - n))).heap[g]? = some (.cells #[.slice A' (t.drop n).length (c - n), .int .i64 0] 86 (0, 0)) := by
          rw [hl3]
          exact blk_set HB2.out 0 _
        exact Rd.of_set HB2.out (by simp) (by simp) HDR2.out HCAP.out (fun z hz => HBY.out z (List.mem_of_mem_drop hz)) (fun ad ha => by obtain ⟨cl, h⟩ := HU2.out ad ha; exact ⟨cl, blk_below h HBB.out⟩) hs (grown_set (World.grownBy.refl w2 _))
  · rw [if_pos hx]
    have hb : (x != 0) = true := by rw [bne_iff_ne]; exact hx
    clear hx h0 h1 h3 hlen
    go_enter Tryd.func62, Tryd.ntmps62
    go_wp2_with fail
    refine HV'.out.mono ?_
    rintro en w1 ⟨rfl, hr, hg⟩
    have HR1 := Aside0.mk hr
    have HG1 := Aside0.mk hg
    clear hr hg
    go_wp2_with fail
    refine (rd_Err _ g t x HR1.out).mono ?_
    rintro en w2 ⟨rfl, rfl⟩
    go_wp2_with fail
    go_ret
    exact ⟨_, rfl, Kd.R_nil _ _ _ _ _, HR1.out, HG1.out⟩
/-! ### Int -/
/-- What Zag makes of a number. -/
def zag (u : Int) : Int := if u % 2 = 0 then u / 2 else -(u / 2) - 1
theorem and1_u64 (u : Int) (h0 : 0 ≤ u) (h1 : u < 18446744073709551616) : Go.bits .and .u64 u 1 = u % 2 := bits_mask .u64 64 (by decide) (fun n a b => wrap_u64 n a b) 1 (by decide) u h0 h1
theorem xor0_i64 (x : Int) (h0 : 0 ≤ x) (h1 : x < 9223372036854775808) : Go.bits .xor .i64 x 0 = x := by
  obtain ⟨x, rfl⟩ := Int.eq_ofNat_of_zero_le h0
  have hx : x < 2 ^ 64 := by omega
  show IntKind.i64.wrap (((BitVec.ofInt 64 (x : Int) ^^^ BitVec.ofInt 64 0).toNat : Nat) : Int) = _
  have e0 : BitVec.ofInt 64 0 = 0#64 := by decide
  rw [e0, BitVec.xor_zero, BitVec.ofInt_natCast, BitVec.toNat_ofNat, Nat.mod_eq_of_lt hx, IntKind.wrap_i64]
  omega
theorem xorm_i64 (x : Int) (h0 : 0 ≤ x) (h1 : x < 9223372036854775808) : Go.bits .xor .i64 x (-1) = -x - 1 := by
  obtain ⟨x, rfl⟩ := Int.eq_ofNat_of_zero_le h0
  have hx : x < 2 ^ 64 := by omega
  show IntKind.i64.wrap (((BitVec.ofInt 64 (x : Int) ^^^ BitVec.ofInt 64 (-1)).toNat : Nat) : Int) = _
  have e0 : BitVec.ofInt 64 (-1) = BitVec.allOnes 64 := by decide
  rw [e0, BitVec.xor_allOnes, BitVec.ofInt_natCast, BitVec.toNat_not, BitVec.toNat_ofNat, Nat.mod_eq_of_lt hx, IntKind.wrap_i64]
  omega
set_option maxHeartbeats 800000 in
theorem bits_Zag (u : Int) (h0 : 0 ≤ u) (h1 : u < 18446744073709551616) (w : World) :
    Calls Tryd.prog 116 #[.int .u64 u] w fun en w' => en = .returned (.int .i64 (zag u)) ∧ w = w' := by
  have ha := and1_u64 u h0 h1
  have hd0 : 0 ≤ u / 2 := by omega
  have hd1 : u / 2 < 9223372036854775808 := by omega
  by_cases he : u % 2 = 0
  · rw [he] at ha
    have hz : zag u = u / 2 := by unfold zag; rw [if_pos he]
    have hx := xor0_i64 (u / 2) hd0 hd1
    rw [hz]
    clear h1 he hz
    go_enter Tryd.func116, Tryd.ntmps116
    go_wp2_with fail
    go_ret
    exact ⟨rfl, rfl⟩
  · have he2 : u % 2 = 1 := by omega
    rw [he2] at ha
    have hz : zag u = -(u / 2) - 1 := by unfold zag; rw [if_neg he]
    have hx := xorm_i64 (u / 2) hd0 hd1
    rw [hz]
    clear h1 he hz he2
    go_enter Tryd.func116, Tryd.ntmps116
    go_wp2_with fail
    go_ret
    exact ⟨rfl, rfl⟩
set_option maxHeartbeats 800000 in
theorem rd_Int (w : World) (g : Nat) (l : List Int) (e : Int) (h : Rd w g l e) :
    Calls Tryd.prog 103 #[.pointer (some ⟨g, 0, none⟩)] w fun en w' => en = .returned (.int .i64 (zag (rVar l e).1)) ∧ Rd w' g (rVar l e).2.1 (rVar l e).2.2 ∧ w.grownBy w' (some g) := by
  have HR := Aside0.mk h
  have HG := Aside0.mk (rVar_range l e h.bytes)
  clear h
  go_enter Tryd.func103, Tryd.ntmps103
  go_wp2_with fail
  refine (rd_Varint w g l e HR.out).mono ?_
  rintro en w1 ⟨rfl, hr, hg⟩
  have HR1 := Aside0.mk hr
  have HG1 := Aside0.mk hg
  clear hr hg
  go_wp2_with fail
  refine (bits_Zag _ HG.out.1 HG.out.2.1 w1).mono ?_
  rintro en w2 ⟨rfl, rfl⟩
  go_wp2_with fail
  go_ret
  exact ⟨rfl, HR1.out, HG1.out⟩
end Go.Proofs.YtmeblifbkhpdnaaDoor.K
/- Two laws for a region that draws its order, walked by hand: the operation's slot is named. No conditions. -/
namespace Go.Proofs.YtmeblifbkhpdnaaDoor.K
open Go
section
variable {P : Program} {md : Region.Mode} {ops : Array Oper} {Q : Exit → Act → World → Prop} {S : World → Prop}
theorem takeH {i : Nat} (N : Option Tmp) {oi : Oper} {v : Value} {fuel : Nat} {listed : Array Bool} {a : Act} {w : World} (hi : ops[i]? = some oi) (hN : oi.dst = N)
    (hs : Region.noSelect ops = true) (hf : Region.free md ops listed i = true) (hr : (Region.ready md ops listed).contains i = true)
    (hQ : ∀ c a w, Q (.panic c) (a.put N v) w → Q (.panic c) a w) (hy : YieldsIf P ops S oi v a) (hS : S w)
    (h : wpAnyH P md ops Q S fuel (listed.setIfInBounds i true) (a.put N v) w) : wpAnyH P md ops Q S (fuel + 1) listed a w := by
  subst hN
  exact wpAnyH_take hi hs hf hr hQ hy hS h
theorem skipH {i : Nat} (N : Option Tmp) {oi : Oper} {fuel : Nat} {listed : Array Bool} {a : Act} {w : World} (hi : ops[i]? = some oi) (hN : oi.dst = N)
    (hs : Region.noSelect ops = true) (hf : Region.free md ops listed i = true) (hr : (Region.ready md ops listed).contains i = true)
    (hQ : ∀ c a w, Q (.panic c) (a.put N undef) w → Q (.panic c) a w) (hw : Region.wanted oi (yielded ops a.tmps) = false) (hS : S w)
    (h : wpAnyH P md ops Q S fuel (listed.setIfInBounds i true) (a.put N undef) w) : wpAnyH P md ops Q S (fuel + 1) listed a w :=
  takeH N hi hN hs hf hr hQ (Or.inr ⟨hw, rfl⟩) hS h
end
end Go.Proofs.YtmeblifbkhpdnaaDoor.K
