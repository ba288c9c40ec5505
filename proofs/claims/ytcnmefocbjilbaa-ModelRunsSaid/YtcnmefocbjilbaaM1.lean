/- Part of the seat's claims: parts of model.Do (cells in order, find, put, delete). -/
import Derived.Test.YtcnmefocbjilbaaProg
import Derived.Below
import Derived.Deep.Draws
import Derived.Deep.AppendLies
import Derived.Maps.AppendAt
import Derived.OwnWalk
import Derived.Laws.BytesArg
import Derived.Laws.MakeOwn
import Derived.Laws.OwnMore
import Derived.Deep.OwnRows
import Derived.Tactics
import Derived.Lib.ConvBytes
import Derived.Laws.Slices
import Derived.WalkKit
import Derived.KernelRfl
import Derived.RowKit3
import Derived.Deep.LoopGhost
import Derived.Deep.QuietTactic
import Derived.BigQuiet
import Derived.WideLaws
import Derived.Deep.DeepCutAuto
import Derived.Deep.CutBlock
import Derived.Deep.RegionHeld3
import Derived.Laws.Rows
import Derived.Lib.AppendStr
import Derived.ArgAppend
import Derived.Laws.IdiomCopy
import Derived.OrdersHeld
import Derived.Laws.BitsLemmas
import Derived.RowKit
import Derived.Test.YtcnmefocbjilbaaWWords
import Derived.Test.YtcnmefocbjilbaaWLast
import Derived.Test.YtcnmefocbjilbaaWTab
import Derived.Test.YtcnmefocbjilbaaWFour
import Derived.Test.YtcnmefocbjilbaaWQPut
import Derived.Test.YtcnmefocbjilbaaWApart
import Derived.Test.YtcnmefocbjilbaaWArr
import Derived.Test.YtcnmefocbjilbaaWZeros
import Derived.Test.YtcnmefocbjilbaaWFoot
import Derived.Test.YtcnmefocbjilbaaWKept
import Derived.Test.YtcnmefocbjilbaaWShare
import Derived.Test.YtcnmefocbjilbaaWN
import Derived.Test.YtcnmefocbjilbaaWFootNe
import Derived.Test.YtcnmefocbjilbaaWAt
import Derived.Test.YtcnmefocbjilbaaWEqStruct
import Derived.Test.YtcnmefocbjilbaaWRepsOne
import Derived.Test.YtcnmefocbjilbaaWInv
import Derived.Test.YtcnmefocbjilbaaWInvWords
import Derived.Test.YtcnmefocbjilbaaWGuard
import Derived.Test.YtcnmefocbjilbaaWNEv
import Derived.Test.YtcnmefocbjilbaaWMore
import Derived.Orders
import Derived.Laws.Cover1
import Derived.Lib.Strings
import Derived.WalkSpells
import Derived.Outline
import Derived.Deep.RegionLawGrows
import Derived.Defers
import Derived.Recover
import Derived.RegionTactic
set_option linter.unusedVariables false
set_option linter.unusedSimpArgs false
namespace Go.Proofs.Ytcnmefocbjilbaa.G
open Go.RowKit Go.Proofs.YtcnmefocbjilbaaW.PrintWords Go.Proofs.YtcnmefocbjilbaaW.PrintLast Go.Proofs.YtcnmefocbjilbaaW.PrintMore
attribute [local go_sem] max2_int min2_int max_two min_two max_three min_three max_four min_four   -- for this text's walks alone
set_option linter.unusedVariables false
set_option linter.unusedSimpArgs false



def errW : Option Int → Value
  | none => .nilIface
  | some c => .iface 0 (.int .i64 c)
theorem errW_none : errW none = .nilIface := rfl
theorem errW_some (c : Int) : errW (some c) = .iface 0 (.int .i64 c) := rfl

theorem info9 : (Try.prog.info? 9).map (fun i => (i.zero, i.size, i.bytes)) = some (some (.string ⟨#[]⟩), 1, 16) := by kernel_rfl
theorem info34 : (Try.prog.info? 34).map (fun i => (i.zero, i.size, i.bytes)) = some (some (.agg #[(.int .i64 0), (.int .u8 0), (.int .i64 0), (.int .u64 0), (.bool false), (.string ⟨#[]⟩), (.slice none 0 0)]), 7, 80) := by kernel_rfl
theorem info40 : (Try.prog.info? 40).map (fun i => (i.zero, i.size, i.bytes)) = some (some (.agg #[(.string ⟨#[]⟩), (.string ⟨#[]⟩)]), 2, 32) := by kernel_rfl
-- the values' own types
/-! #### struct type 40 -/
structure S40 where
  f0 : ByteArray
  f1 : ByteArray
def z40 : S40 := ⟨(⟨#[]⟩ : ByteArray), (⟨#[]⟩ : ByteArray)⟩
def k40 : Kd S40 := Kd.iso (Kd.pair Kd.string Kd.string) (fun x : S40 => (x.f0, x.f1))
theorem k40_open {w : World} {x : S40} {cs : List Value} (h : k40.K w x cs) : cs = [.string x.f0, .string x.f1] := by
  obtain ⟨_, _, rfl, rfl, rfl⟩ := h
  exact rfl
theorem k40_openM {w : World} {base : Nat} {ok : Nat → Prop} {x : S40} {cs : List Value} (h : k40.M w base ok x cs) : cs = [.string x.f0, .string x.f1] := by
  obtain ⟨_, _, rfl, rfl, rfl⟩ := h
  exact rfl
theorem k40_mk (w : World) (x : S40)  : k40.K w x [.string x.f0, .string x.f1] := ⟨[.string x.f0], [.string x.f1], rfl, rfl, rfl⟩
theorem k40_mkM (w : World) (base : Nat) (ok : Nat → Prop) (x : S40)  : k40.M w base ok x [.string x.f0, .string x.f1] := ⟨[.string x.f0], [.string x.f1], rfl, rfl, rfl⟩
def rd_T40 (xs : List S40) (i : Int) : S40 := xs.getD i.toNat z40
theorem at_T40 {w : World} {A : Option Addr} {n : Nat} {xs : List S40} (h : Kd.C k40 w A n xs) (i : Int) (h0 : 0 ≤ i) (h1 : i < n) : ∃ ad , A = some ad ∧ w.cell? (ad.add (i.toNat * 2)) = some (.string (rd_T40 xs i).f0) ∧ w.cell? ⟨(ad.add (i.toNat * 2)).block, (ad.add (i.toNat * 2)).off + 1, none⟩ = some (.string (rd_T40 xs i).f1) := by
  obtain ⟨ad, c, e, _, hK, hc0⟩ := Kd.C_get h z40 i h0 h1
  have hc : ∀ j u, c[j]? = some u → w.cell? (ad.add (i.toNat * 2 + j)) = some u := hc0
  obtain rfl := k40_open hK
  exact ⟨ad, e, hc 0 _ rfl, by rw [← add_field _ _ 1 (by omega)]; exact hc 1 _ rfl⟩

def rd_L3 (xs : List (List S40)) (i : Int) : (List S40) := xs.getD i.toNat ([] : List S40)
theorem at_L3 {w : World} {A : Option Addr} {n : Nat} {xs : List (List S40)} (h : Kd.C (Kd.slice 40 k40) w A n xs) (i : Int) (h0 : 0 ≤ i) (h1 : i < n) : ∃ ad A0 c0, A = some ad ∧ w.cell? (ad.add i.toNat) = some (.slice A0 (rd_L3 xs i).length c0) ∧ (rd_L3 xs i).length ≤ c0 ∧ k40.C w A0 (rd_L3 xs i).length (rd_L3 xs i) := by
  obtain ⟨ad, c, e, _, hK, hc0⟩ := Kd.C_get h ([] : List S40) i h0 h1
  have hc : ∀ j u, c[j]? = some u → w.cell? (ad.add (i.toNat * 1 + j)) = some u := hc0
  obtain ⟨A0, c0, rfl, l0, g0⟩ := hK
  exact ⟨ad, A0, c0, e, by have hq := hc 0 _ rfl; rwa [Nat.mul_one, Nat.add_zero] at hq, l0, g0⟩

/-! #### struct type 24 -/
structure S24 where
  f0 : ByteArray
  f1 : ByteArray
  f2 : Bool
def z24 : S24 := ⟨(⟨#[]⟩ : ByteArray), (⟨#[]⟩ : ByteArray), false⟩
def k24 : Kd S24 := Kd.iso (Kd.pair Kd.string (Kd.pair Kd.string Kd.bool)) (fun x : S24 => (x.f0, x.f1, x.f2))
theorem k24_open {w : World} {x : S24} {cs : List Value} (h : k24.K w x cs) : cs = [.string x.f0, .string x.f1, .bool x.f2] := by
  obtain ⟨_, _, rfl, rfl, ⟨_, _, rfl, rfl, rfl⟩⟩ := h
  exact rfl
theorem k24_openM {w : World} {base : Nat} {ok : Nat → Prop} {x : S24} {cs : List Value} (h : k24.M w base ok x cs) : cs = [.string x.f0, .string x.f1, .bool x.f2] := by
  obtain ⟨_, _, rfl, rfl, ⟨_, _, rfl, rfl, rfl⟩⟩ := h
  exact rfl
theorem k24_mk (w : World) (x : S24)  : k24.K w x [.string x.f0, .string x.f1, .bool x.f2] := ⟨[.string x.f0], [.string x.f1, .bool x.f2], rfl, rfl, ⟨[.string x.f1], [.bool x.f2], rfl, rfl, rfl⟩⟩
theorem k24_mkM (w : World) (base : Nat) (ok : Nat → Prop) (x : S24)  : k24.M w base ok x [.string x.f0, .string x.f1, .bool x.f2] := ⟨[.string x.f0], [.string x.f1, .bool x.f2], rfl, rfl, ⟨[.string x.f1], [.bool x.f2], rfl, rfl, rfl⟩⟩
def rd_T24 (xs : List S24) (i : Int) : S24 := xs.getD i.toNat z24
theorem at_T24 {w : World} {A : Option Addr} {n : Nat} {xs : List S24} (h : Kd.C k24 w A n xs) (i : Int) (h0 : 0 ≤ i) (h1 : i < n) : ∃ ad , A = some ad ∧ w.cell? (ad.add (i.toNat * 3)) = some (.string (rd_T24 xs i).f0) ∧ w.cell? ⟨(ad.add (i.toNat * 3)).block, (ad.add (i.toNat * 3)).off + 1, none⟩ = some (.string (rd_T24 xs i).f1) ∧ w.cell? ⟨(ad.add (i.toNat * 3)).block, (ad.add (i.toNat * 3)).off + 2, none⟩ = some (.bool (rd_T24 xs i).f2) := by
  obtain ⟨ad, c, e, _, hK, hc0⟩ := Kd.C_get h z24 i h0 h1
  have hc : ∀ j u, c[j]? = some u → w.cell? (ad.add (i.toNat * 3 + j)) = some u := hc0
  obtain rfl := k24_open hK
  exact ⟨ad, e, hc 0 _ rfl, by rw [← add_field _ _ 1 (by omega)]; exact hc 1 _ rfl, by rw [← add_field _ _ 2 (by omega)]; exact hc 2 _ rfl⟩

/-! #### struct type 26 -/
structure S26 where
  f0 : Int
  f1 : ByteArray
  f2 : ByteArray
  f3 : S24
  f4 : Int
def z26 : S26 := ⟨(0 : Int), (⟨#[]⟩ : ByteArray), (⟨#[]⟩ : ByteArray), z24, (0 : Int)⟩
def k26 : Kd S26 := Kd.iso (Kd.pair (Kd.int .u8) (Kd.pair Kd.string (Kd.pair Kd.string (Kd.pair k24 (Kd.int .i64))))) (fun x : S26 => (x.f0, x.f1, x.f2, x.f3, x.f4))
theorem k26_open {w : World} {x : S26} {cs : List Value} (h : k26.K w x cs) : cs = [.int .u8 x.f0, .string x.f1, .string x.f2, .string x.f3.f0, .string x.f3.f1, .bool x.f3.f2, .int .i64 x.f4] := by
  obtain ⟨_, _, rfl, rfl, ⟨_, _, rfl, rfl, ⟨_, _, rfl, rfl, ⟨_, _, rfl, s3, rfl⟩⟩⟩⟩ := h
  obtain rfl := k24_open s3
  exact rfl
theorem k26_openM {w : World} {base : Nat} {ok : Nat → Prop} {x : S26} {cs : List Value} (h : k26.M w base ok x cs) : cs = [.int .u8 x.f0, .string x.f1, .string x.f2, .string x.f3.f0, .string x.f3.f1, .bool x.f3.f2, .int .i64 x.f4] := by
  obtain ⟨_, _, rfl, rfl, ⟨_, _, rfl, rfl, ⟨_, _, rfl, rfl, ⟨_, _, rfl, s3, rfl⟩⟩⟩⟩ := h
  obtain rfl := k24_openM s3
  exact rfl
theorem k26_mk (w : World) (x : S26)  : k26.K w x [.int .u8 x.f0, .string x.f1, .string x.f2, .string x.f3.f0, .string x.f3.f1, .bool x.f3.f2, .int .i64 x.f4] := ⟨[.int .u8 x.f0], [.string x.f1, .string x.f2, .string x.f3.f0, .string x.f3.f1, .bool x.f3.f2, .int .i64 x.f4], rfl, rfl, ⟨[.string x.f1], [.string x.f2, .string x.f3.f0, .string x.f3.f1, .bool x.f3.f2, .int .i64 x.f4], rfl, rfl, ⟨[.string x.f2], [.string x.f3.f0, .string x.f3.f1, .bool x.f3.f2, .int .i64 x.f4], rfl, rfl, ⟨[.string x.f3.f0, .string x.f3.f1, .bool x.f3.f2], [.int .i64 x.f4], rfl, (k24_mk w x.f3 ), rfl⟩⟩⟩⟩
theorem k26_mkM (w : World) (base : Nat) (ok : Nat → Prop) (x : S26)  : k26.M w base ok x [.int .u8 x.f0, .string x.f1, .string x.f2, .string x.f3.f0, .string x.f3.f1, .bool x.f3.f2, .int .i64 x.f4] := ⟨[.int .u8 x.f0], [.string x.f1, .string x.f2, .string x.f3.f0, .string x.f3.f1, .bool x.f3.f2, .int .i64 x.f4], rfl, rfl, ⟨[.string x.f1], [.string x.f2, .string x.f3.f0, .string x.f3.f1, .bool x.f3.f2, .int .i64 x.f4], rfl, rfl, ⟨[.string x.f2], [.string x.f3.f0, .string x.f3.f1, .bool x.f3.f2, .int .i64 x.f4], rfl, rfl, ⟨[.string x.f3.f0, .string x.f3.f1, .bool x.f3.f2], [.int .i64 x.f4], rfl, (k24_mkM w base ok x.f3 ), rfl⟩⟩⟩⟩
def rd_T26 (xs : List S26) (i : Int) : S26 := xs.getD i.toNat z26
theorem at_T26 {w : World} {A : Option Addr} {n : Nat} {xs : List S26} (h : Kd.C k26 w A n xs) (i : Int) (h0 : 0 ≤ i) (h1 : i < n) : ∃ ad , A = some ad ∧ w.cell? (ad.add (i.toNat * 7)) = some (.int .u8 (rd_T26 xs i).f0) ∧ w.cell? ⟨(ad.add (i.toNat * 7)).block, (ad.add (i.toNat * 7)).off + 1, none⟩ = some (.string (rd_T26 xs i).f1) ∧ w.cell? ⟨(ad.add (i.toNat * 7)).block, (ad.add (i.toNat * 7)).off + 2, none⟩ = some (.string (rd_T26 xs i).f2) ∧ w.cell? ⟨(ad.add (i.toNat * 7)).block, (ad.add (i.toNat * 7)).off + 3, none⟩ = some (.string (rd_T26 xs i).f3.f0) ∧ w.cell? ⟨(ad.add (i.toNat * 7)).block, (ad.add (i.toNat * 7)).off + 4, none⟩ = some (.string (rd_T26 xs i).f3.f1) ∧ w.cell? ⟨(ad.add (i.toNat * 7)).block, (ad.add (i.toNat * 7)).off + 5, none⟩ = some (.bool (rd_T26 xs i).f3.f2) ∧ w.cell? ⟨(ad.add (i.toNat * 7)).block, (ad.add (i.toNat * 7)).off + 6, none⟩ = some (.int .i64 (rd_T26 xs i).f4) := by
  obtain ⟨ad, c, e, _, hK, hc0⟩ := Kd.C_get h z26 i h0 h1
  have hc : ∀ j u, c[j]? = some u → w.cell? (ad.add (i.toNat * 7 + j)) = some u := hc0
  obtain rfl := k26_open hK
  exact ⟨ad, e, hc 0 _ rfl, by rw [← add_field _ _ 1 (by omega)]; exact hc 1 _ rfl, by rw [← add_field _ _ 2 (by omega)]; exact hc 2 _ rfl, by rw [← add_field _ _ 3 (by omega)]; exact hc 3 _ rfl, by rw [← add_field _ _ 4 (by omega)]; exact hc 4 _ rfl, by rw [← add_field _ _ 5 (by omega)]; exact hc 5 _ rfl, by rw [← add_field _ _ 6 (by omega)]; exact hc 6 _ rfl⟩

/-! #### struct type 34 -/
structure S34 where
  f0 : Int
  f1 : Int
  f2 : Int
  f3 : Int
  f4 : Bool
  f5 : ByteArray
  f6 : (List S40)
def z34 : S34 := ⟨(0 : Int), (0 : Int), (0 : Int), (0 : Int), false, (⟨#[]⟩ : ByteArray), ([] : List S40)⟩
def k34 : Kd S34 := Kd.iso (Kd.pair (Kd.int .i64) (Kd.pair (Kd.int .u8) (Kd.pair (Kd.int .i64) (Kd.pair (Kd.int .u64) (Kd.pair Kd.bool (Kd.pair Kd.string (Kd.slice 40 k40))))))) (fun x : S34 => (x.f0, x.f1, x.f2, x.f3, x.f4, x.f5, x.f6))
theorem k34_open {w : World} {x : S34} {cs : List Value} (h : k34.K w x cs) : ∃ A6 c6, cs = [.int .i64 x.f0, .int .u8 x.f1, .int .i64 x.f2, .int .u64 x.f3, .bool x.f4, .string x.f5, .slice A6 x.f6.length c6] ∧ x.f6.length ≤ c6 ∧ k40.C w A6 x.f6.length x.f6 := by
  obtain ⟨_, _, rfl, rfl, ⟨_, _, rfl, rfl, ⟨_, _, rfl, rfl, ⟨_, _, rfl, rfl, ⟨_, _, rfl, rfl, ⟨_, _, rfl, rfl, ⟨A6, c6, rfl, l6, g6⟩⟩⟩⟩⟩⟩⟩ := h
  exact ⟨A6, c6, rfl, l6, g6⟩
theorem k34_openM {w : World} {base : Nat} {ok : Nat → Prop} {x : S34} {cs : List Value} (h : k34.M w base ok x cs) : ∃ v6, cs = [.int .i64 x.f0, .int .u8 x.f1, .int .i64 x.f2, .int .u64 x.f3, .bool x.f4, .string x.f5, v6] ∧ k40.R 40 w base ok v6 x.f6 := by
  obtain ⟨_, _, rfl, rfl, ⟨_, _, rfl, rfl, ⟨_, _, rfl, rfl, ⟨_, _, rfl, rfl, ⟨_, _, rfl, rfl, ⟨_, _, rfl, rfl, ⟨v6, rfl, g6⟩⟩⟩⟩⟩⟩⟩ := h
  exact ⟨v6, rfl, g6⟩
theorem k34_mk (w : World) (x : S34) {A6 : Option Addr} {c6 : Nat} (l6 : x.f6.length ≤ c6) (g6 : k40.C w A6 x.f6.length x.f6) : k34.K w x [.int .i64 x.f0, .int .u8 x.f1, .int .i64 x.f2, .int .u64 x.f3, .bool x.f4, .string x.f5, .slice A6 x.f6.length c6] := ⟨[.int .i64 x.f0], [.int .u8 x.f1, .int .i64 x.f2, .int .u64 x.f3, .bool x.f4, .string x.f5, .slice A6 x.f6.length c6], rfl, rfl, ⟨[.int .u8 x.f1], [.int .i64 x.f2, .int .u64 x.f3, .bool x.f4, .string x.f5, .slice A6 x.f6.length c6], rfl, rfl, ⟨[.int .i64 x.f2], [.int .u64 x.f3, .bool x.f4, .string x.f5, .slice A6 x.f6.length c6], rfl, rfl, ⟨[.int .u64 x.f3], [.bool x.f4, .string x.f5, .slice A6 x.f6.length c6], rfl, rfl, ⟨[.bool x.f4], [.string x.f5, .slice A6 x.f6.length c6], rfl, rfl, ⟨[.string x.f5], [.slice A6 x.f6.length c6], rfl, rfl, ⟨A6, c6, rfl, l6, g6⟩⟩⟩⟩⟩⟩⟩
theorem k34_mkM (w : World) (base : Nat) (ok : Nat → Prop) (x : S34) {v6 : Value} (g6 : k40.R 40 w base ok v6 x.f6) : k34.M w base ok x [.int .i64 x.f0, .int .u8 x.f1, .int .i64 x.f2, .int .u64 x.f3, .bool x.f4, .string x.f5, v6] := ⟨[.int .i64 x.f0], [.int .u8 x.f1, .int .i64 x.f2, .int .u64 x.f3, .bool x.f4, .string x.f5, v6], rfl, rfl, ⟨[.int .u8 x.f1], [.int .i64 x.f2, .int .u64 x.f3, .bool x.f4, .string x.f5, v6], rfl, rfl, ⟨[.int .i64 x.f2], [.int .u64 x.f3, .bool x.f4, .string x.f5, v6], rfl, rfl, ⟨[.int .u64 x.f3], [.bool x.f4, .string x.f5, v6], rfl, rfl, ⟨[.bool x.f4], [.string x.f5, v6], rfl, rfl, ⟨[.string x.f5], [v6], rfl, rfl, ⟨v6, rfl, g6⟩⟩⟩⟩⟩⟩⟩
def rd_T34 (xs : List S34) (i : Int) : S34 := xs.getD i.toNat z34
theorem at_T34 {w : World} {A : Option Addr} {n : Nat} {xs : List S34} (h : Kd.C k34 w A n xs) (i : Int) (h0 : 0 ≤ i) (h1 : i < n) : ∃ ad A6 c6, A = some ad ∧ w.cell? (ad.add (i.toNat * 7)) = some (.int .i64 (rd_T34 xs i).f0) ∧ w.cell? ⟨(ad.add (i.toNat * 7)).block, (ad.add (i.toNat * 7)).off + 1, none⟩ = some (.int .u8 (rd_T34 xs i).f1) ∧ w.cell? ⟨(ad.add (i.toNat * 7)).block, (ad.add (i.toNat * 7)).off + 2, none⟩ = some (.int .i64 (rd_T34 xs i).f2) ∧ w.cell? ⟨(ad.add (i.toNat * 7)).block, (ad.add (i.toNat * 7)).off + 3, none⟩ = some (.int .u64 (rd_T34 xs i).f3) ∧ w.cell? ⟨(ad.add (i.toNat * 7)).block, (ad.add (i.toNat * 7)).off + 4, none⟩ = some (.bool (rd_T34 xs i).f4) ∧ w.cell? ⟨(ad.add (i.toNat * 7)).block, (ad.add (i.toNat * 7)).off + 5, none⟩ = some (.string (rd_T34 xs i).f5) ∧ w.cell? ⟨(ad.add (i.toNat * 7)).block, (ad.add (i.toNat * 7)).off + 6, none⟩ = some (.slice A6 (rd_T34 xs i).f6.length c6) ∧ (rd_T34 xs i).f6.length ≤ c6 ∧ k40.C w A6 (rd_T34 xs i).f6.length (rd_T34 xs i).f6 := by
  obtain ⟨ad, c, e, _, hK, hc0⟩ := Kd.C_get h z34 i h0 h1
  have hc : ∀ j u, c[j]? = some u → w.cell? (ad.add (i.toNat * 7 + j)) = some u := hc0
  obtain ⟨A6, c6, rfl, l6, g6⟩ := k34_open hK
  exact ⟨ad, A6, c6, e, hc 0 _ rfl, by rw [← add_field _ _ 1 (by omega)]; exact hc 1 _ rfl, by rw [← add_field _ _ 2 (by omega)]; exact hc 2 _ rfl, by rw [← add_field _ _ 3 (by omega)]; exact hc 3 _ rfl, by rw [← add_field _ _ 4 (by omega)]; exact hc 4 _ rfl, by rw [← add_field _ _ 5 (by omega)]; exact hc 5 _ rfl, by rw [← add_field _ _ 6 (by omega)]; exact hc 6 _ rfl, l6, g6⟩

def rd_L10 (xs : List (List ByteArray)) (i : Int) : (List ByteArray) := xs.getD i.toNat ([] : List ByteArray)
theorem at_L10 {w : World} {A : Option Addr} {n : Nat} {xs : List (List ByteArray)} (h : Kd.C (Kd.slice 9 Kd.string) w A n xs) (i : Int) (h0 : 0 ≤ i) (h1 : i < n) : ∃ ad A0 c0, A = some ad ∧ w.cell? (ad.add i.toNat) = some (.slice A0 (rd_L10 xs i).length c0) ∧ (rd_L10 xs i).length ≤ c0 ∧ Kd.string.C w A0 (rd_L10 xs i).length (rd_L10 xs i) := by
  obtain ⟨ad, c, e, _, hK, hc0⟩ := Kd.C_get h ([] : List ByteArray) i h0 h1
  have hc : ∀ j u, c[j]? = some u → w.cell? (ad.add (i.toNat * 1 + j)) = some u := hc0
  obtain ⟨A0, c0, rfl, l0, g0⟩ := hK
  exact ⟨ad, A0, c0, e, by have hq := hc 0 _ rfl; rwa [Nat.mul_one, Nat.add_zero] at hq, l0, g0⟩

def rd_L11 (xs : List (List S26)) (i : Int) : (List S26) := xs.getD i.toNat ([] : List S26)
theorem at_L11 {w : World} {A : Option Addr} {n : Nat} {xs : List (List S26)} (h : Kd.C (Kd.slice 26 k26) w A n xs) (i : Int) (h0 : 0 ≤ i) (h1 : i < n) : ∃ ad A0 c0, A = some ad ∧ w.cell? (ad.add i.toNat) = some (.slice A0 (rd_L11 xs i).length c0) ∧ (rd_L11 xs i).length ≤ c0 ∧ k26.C w A0 (rd_L11 xs i).length (rd_L11 xs i) := by
  obtain ⟨ad, c, e, _, hK, hc0⟩ := Kd.C_get h ([] : List S26) i h0 h1
  have hc : ∀ j u, c[j]? = some u → w.cell? (ad.add (i.toNat * 1 + j)) = some u := hc0
  obtain ⟨A0, c0, rfl, l0, g0⟩ := hK
  exact ⟨ad, A0, c0, e, by have hq := hc 0 _ rfl; rwa [Nat.mul_one, Nat.add_zero] at hq, l0, g0⟩

def rd_L12 (xs : List (List S34)) (i : Int) : (List S34) := xs.getD i.toNat ([] : List S34)
theorem at_L12 {w : World} {A : Option Addr} {n : Nat} {xs : List (List S34)} (h : Kd.C (Kd.slice 34 k34) w A n xs) (i : Int) (h0 : 0 ≤ i) (h1 : i < n) : ∃ ad A0 c0, A = some ad ∧ w.cell? (ad.add i.toNat) = some (.slice A0 (rd_L12 xs i).length c0) ∧ (rd_L12 xs i).length ≤ c0 ∧ k34.C w A0 (rd_L12 xs i).length (rd_L12 xs i) := by
  obtain ⟨ad, c, e, _, hK, hc0⟩ := Kd.C_get h ([] : List S34) i h0 h1
  have hc : ∀ j u, c[j]? = some u → w.cell? (ad.add (i.toNat * 1 + j)) = some u := hc0
  obtain ⟨A0, c0, rfl, l0, g0⟩ := hK
  exact ⟨ad, A0, c0, e, by have hq := hc 0 _ rfl; rwa [Nat.mul_one, Nat.add_zero] at hq, l0, g0⟩

/-! #### struct type 50 -/
structure S50 where
  f0 : Int
  f1 : (List S26)
  f2 : (List S34)
def z50 : S50 := ⟨(0 : Int), ([] : List S26), ([] : List S34)⟩
def k50 : Kd S50 := Kd.iso (Kd.pair (Kd.int .u64) (Kd.pair (Kd.slice 26 k26) (Kd.slice 34 k34))) (fun x : S50 => (x.f0, x.f1, x.f2))
theorem k50_open {w : World} {x : S50} {cs : List Value} (h : k50.K w x cs) : ∃ A1 c1 A2 c2, cs = [.int .u64 x.f0, .slice A1 x.f1.length c1, .slice A2 x.f2.length c2] ∧ x.f1.length ≤ c1 ∧ k26.C w A1 x.f1.length x.f1 ∧ x.f2.length ≤ c2 ∧ k34.C w A2 x.f2.length x.f2 := by
  obtain ⟨_, _, rfl, rfl, ⟨_, _, rfl, ⟨A1, c1, rfl, l1, g1⟩, ⟨A2, c2, rfl, l2, g2⟩⟩⟩ := h
  exact ⟨A1, c1, A2, c2, rfl, l1, g1, l2, g2⟩
theorem k50_openM {w : World} {base : Nat} {ok : Nat → Prop} {x : S50} {cs : List Value} (h : k50.M w base ok x cs) : ∃ v1 v2, cs = [.int .u64 x.f0, v1, v2] ∧ k26.R 26 w base ok v1 x.f1 ∧ k34.R 34 w base ok v2 x.f2 := by
  obtain ⟨_, _, rfl, rfl, ⟨_, _, rfl, ⟨v1, rfl, g1⟩, ⟨v2, rfl, g2⟩⟩⟩ := h
  exact ⟨v1, v2, rfl, g1, g2⟩
theorem k50_mk (w : World) (x : S50) {A1 : Option Addr} {c1 : Nat} (l1 : x.f1.length ≤ c1) (g1 : k26.C w A1 x.f1.length x.f1) {A2 : Option Addr} {c2 : Nat} (l2 : x.f2.length ≤ c2) (g2 : k34.C w A2 x.f2.length x.f2) : k50.K w x [.int .u64 x.f0, .slice A1 x.f1.length c1, .slice A2 x.f2.length c2] := ⟨[.int .u64 x.f0], [.slice A1 x.f1.length c1, .slice A2 x.f2.length c2], rfl, rfl, ⟨[.slice A1 x.f1.length c1], [.slice A2 x.f2.length c2], rfl, ⟨A1, c1, rfl, l1, g1⟩, ⟨A2, c2, rfl, l2, g2⟩⟩⟩
theorem k50_mkM (w : World) (base : Nat) (ok : Nat → Prop) (x : S50) {v1 : Value} (g1 : k26.R 26 w base ok v1 x.f1) {v2 : Value} (g2 : k34.R 34 w base ok v2 x.f2) : k50.M w base ok x [.int .u64 x.f0, v1, v2] := ⟨[.int .u64 x.f0], [v1, v2], rfl, rfl, ⟨[v1], [v2], rfl, ⟨v1, rfl, g1⟩, ⟨v2, rfl, g2⟩⟩⟩
def rd_T50 (xs : List S50) (i : Int) : S50 := xs.getD i.toNat z50
theorem at_T50 {w : World} {A : Option Addr} {n : Nat} {xs : List S50} (h : Kd.C k50 w A n xs) (i : Int) (h0 : 0 ≤ i) (h1 : i < n) : ∃ ad A1 c1 A2 c2, A = some ad ∧ w.cell? (ad.add (i.toNat * 3)) = some (.int .u64 (rd_T50 xs i).f0) ∧ w.cell? ⟨(ad.add (i.toNat * 3)).block, (ad.add (i.toNat * 3)).off + 1, none⟩ = some (.slice A1 (rd_T50 xs i).f1.length c1) ∧ w.cell? ⟨(ad.add (i.toNat * 3)).block, (ad.add (i.toNat * 3)).off + 2, none⟩ = some (.slice A2 (rd_T50 xs i).f2.length c2) ∧ (rd_T50 xs i).f1.length ≤ c1 ∧ k26.C w A1 (rd_T50 xs i).f1.length (rd_T50 xs i).f1 ∧ (rd_T50 xs i).f2.length ≤ c2 ∧ k34.C w A2 (rd_T50 xs i).f2.length (rd_T50 xs i).f2 := by
  obtain ⟨ad, c, e, _, hK, hc0⟩ := Kd.C_get h z50 i h0 h1
  have hc : ∀ j u, c[j]? = some u → w.cell? (ad.add (i.toNat * 3 + j)) = some u := hc0
  obtain ⟨A1, c1, A2, c2, rfl, l1, g1, l2, g2⟩ := k50_open hK
  exact ⟨ad, A1, c1, A2, c2, e, hc 0 _ rfl, by rw [← add_field _ _ 1 (by omega)]; exact hc 1 _ rfl, by rw [← add_field _ _ 2 (by omega)]; exact hc 2 _ rfl, l1, g1, l2, g2⟩

def rd_L14 (xs : List (List S50)) (i : Int) : (List S50) := xs.getD i.toNat ([] : List S50)
theorem at_L14 {w : World} {A : Option Addr} {n : Nat} {xs : List (List S50)} (h : Kd.C (Kd.slice 50 k50) w A n xs) (i : Int) (h0 : 0 ≤ i) (h1 : i < n) : ∃ ad A0 c0, A = some ad ∧ w.cell? (ad.add i.toNat) = some (.slice A0 (rd_L14 xs i).length c0) ∧ (rd_L14 xs i).length ≤ c0 ∧ k50.C w A0 (rd_L14 xs i).length (rd_L14 xs i) := by
  obtain ⟨ad, c, e, _, hK, hc0⟩ := Kd.C_get h ([] : List S50) i h0 h1
  have hc : ∀ j u, c[j]? = some u → w.cell? (ad.add (i.toNat * 1 + j)) = some u := hc0
  obtain ⟨A0, c0, rfl, l0, g0⟩ := hK
  exact ⟨ad, A0, c0, e, by have hq := hc 0 _ rfl; rwa [Nat.mul_one, Nat.add_zero] at hq, l0, g0⟩

end Go.Proofs.Ytcnmefocbjilbaa.G
/-
  One walk in the text's order for a region that draws its order, where each operation's value is the same in every world of a kind S, and S outlives each operation.
-/
namespace Go.Proofs.YtcnmefocbjilbaaFlat
open Go
/-- One step's post: the frame is a1, S holds. -/
def Step1 (Q : Exit → Act → World → Prop) (S : World → Prop) (a1 : Act) : Exit → Act → World → Prop
  | .normal, a, w => a = a1 ∧ S w
  | .outgrown, _, _ => LetsOut Q
  | _, _, _ => False
def needB (o : Oper) (j : Nat) : Bool := o.after.toList.any fun e => Region.binds .any e && e.on == j
def flatOk (ops : Array Oper) : Bool :=
  (List.range ops.size).all fun i => match ops[i]? with
    | none => true
    | some o => (match o.op with | .select _ _ => false | _ => true) && (o.after.toList.all fun e => !Region.binds .any e || decide (e.on < i)) &&
        ((o.looksAt ops).all fun t => (List.range ops.size).all fun j => match ops[j]? with
          | some p => !(p.dst == some t) || needB o j
          | none => true) &&
        (match o.dst with
          | none => true
          | some d => (List.range ops.size).all fun j => j == i || match ops[j]? with
            | some p => !(p.dst == some d)
            | none => true)
section
variable {P : Program} {ops : Array Oper} {Q : Exit → Act → World → Prop} {S : World → Prop}
theorem flat_parts (h : flatOk ops = true) {i : Nat} {o : Oper} (hi : ops[i]? = some o) :
    (∀ cs b, o.op ≠ .select cs b) ∧ (∀ e ∈ o.after, Region.binds .any e = true → e.on < i) ∧ (∀ t ∈ o.looksAt ops, ∀ (j : Nat) p, ops[j]? = some p → p.dst = some t → ∃ e ∈ o.after, Region.binds .any e = true ∧ e.on = j) ∧
    (∀ (j : Nat) p d, ops[j]? = some p → j ≠ i → o.dst = some d → p.dst ≠ some d) := by
  unfold flatOk at h
  rw [List.all_eq_true] at h
  have hlt : i < ops.size := (Array.getElem?_eq_some_iff.1 hi).1
  have h1 := h i (List.mem_range.2 hlt)
  simp only [hi, Bool.and_eq_true] at h1
  obtain ⟨⟨⟨h1, h2⟩, h3⟩, h4⟩ := h1
  refine ⟨?_, ?_, ?_, ?_⟩
  · intro cs b he
    rw [he] at h1
    cases h1
  · intro e he hb
    rw [List.all_eq_true] at h2
    have := h2 e (by simpa using he)
    simpa [hb] using this
  · intro t ht j p hj hp
    rw [List.all_eq_true] at h3
    have h5 := h3 t ht
    rw [List.all_eq_true] at h5
    have h6 := h5 j (List.mem_range.2 (Array.getElem?_eq_some_iff.1 hj).1)
    simp only [hj, hp, beq_self_eq_true, Bool.not_true, Bool.false_or, needB, List.any_eq_true, Bool.and_eq_true, beq_iff_eq] at h6
    obtain ⟨e, he, hb, hon⟩ := h6
    exact ⟨e, by simpa using he, hb, hon⟩
  · intro j p d hj hne hd hp
    simp only [hd] at h4
    rw [List.all_eq_true] at h4
    have h6 := h4 j (List.mem_range.2 (Array.getElem?_eq_some_iff.1 hj).1)
    simp [hj, hp, hne] at h6

theorem put_size (a : Act) (d : Option Tmp) (v : Value) : (a.put d v).tmps.size = a.tmps.size := by cases d <;> simp [Act.put]
theorem put_def (a : Act) (d : Option Tmp) (v : Value) : (a.put d v).defers = a.defers := by cases d <;> rfl
theorem put_ne (a : Act) {d : Option Tmp} {t : Tmp} (v : Value) (h : d ≠ some t) : (a.put d v).tmps[t]? = a.tmps[t]? := by
  cases d with
  | none => rfl
  | some d =>
    have hne : d ≠ t := fun e => h (e ▸ rfl)
    simp [Act.put, Array.getElem?_setIfInBounds_ne hne]

theorem flat_step {i : Nat} {o : Oper} {a b b1 : Act} {w : World} (hi : ops[i]? = some o) (hsel : ∀ cs b, o.op ≠ .select cs b) (heq : ∀ t ∈ o.looksAt ops, a.tmps[t]? = b.tmps[t]?)
    (h : wpList P ops (Step1 Q S b1) [o] b w) (hdef : b1.defers = b.defers) {K : Act → World → Prop} (hK : ∀ v w', b.put o.dst v = b1 → S w' → K (a.put o.dst v) w') : wpOp P ops Q i K a w := by
  have he : execOp a.eval o = execOp b.eval o := execOp_congr o hsel fun x hx => by
    cases x with
    | tmp t =>
      have ht : t ∈ o.looksAt ops := List.mem_append_left _ (List.mem_filterMap.2 ⟨.tmp t, by simpa using hx, rfl⟩)
      have := heq t ht
      simp only [Act.eval]
      simpa [Array.getD_eq_getD_getElem?] using congrArg (fun z => Option.getD z undef) this
    | _ => rfl
  have hw : Region.wanted o (yielded ops a.tmps) = Region.wanted o (yielded ops b.tmps) := by
    unfold Region.wanted
    cases hg : o.guard with
    | none => rfl
    | some gw =>
      obtain ⟨g, want⟩ := gw
      have hy : yielded ops a.tmps g = yielded ops b.tmps g := by
        unfold yielded
        cases ht : (ops[g]?).bind (·.dst) with
        | none => rfl
        | some t =>
          have := heq t (by simp [Oper.looksAt, hg, ht])
          simp [this]
      simp only [hy]
  unfold wpOp
  simp only [hi, hw]
  unfold wpList at h
  split
  · rename_i hwt
    rw [if_pos hwt] at h
    rcases h with h | ⟨hasks, hlets⟩
    · refine .inl ?_
      unfold Oper.wp at *
      rw [he]
      generalize (execOp b.eval o).run P w = r at *
      cases r with
      | ok n w' =>
        cases n <;> simp only [Oper.upon, wpList] at h ⊢
        case value u => exact hK _ _ h.1 h.2
        case skip => exact hK _ _ h.1 h.2
        case defer d =>
          have := congrArg Act.defers h.1
          rw [hdef, put_def] at this
          exact absurd (congrArg List.length this) (by simp)
        case enter f args =>
          refine Calls.mono h fun e w'' hh => ?_
          cases e with
          | returned u => exact hK _ _ hh.1 hh.2
          | panicked c => exact hh.elim
          | outgrown =>
            obtain ⟨_, _, hh⟩ := hh
            exact hh
        case row row args => exact Rows.mono h fun u w'' hh => hK _ _ hh.1 hh.2
      | halt x w' =>
        cases x <;> simp only [Oper.upon, Step1] at h ⊢
    · refine .inr ⟨?_, ?_⟩
      · unfold Oper.asks at *
        rw [he]
        exact hasks
      · obtain ⟨_, _, hh⟩ := hlets
        exact hh
  · rename_i hwt
    rw [if_neg hwt] at h
    exact hK _ _ h.1 h.2

/-- The steps, one behind the other in the text's order. -/
inductive Chain (P : Program) (ops : Array Oper) (Q : Exit → Act → World → Prop) (S : World → Prop) : List Oper → Act → Act → Prop
  | nil (a : Act) : Chain P ops Q S [] a a
  | cons {o : Oper} {rest : List Oper} {a a1 F : Act} (v : Value) (hv : a.put o.dst v = a1) (h : ∀ w, S w → wpList P ops (Step1 Q S a1) [o] a w) (hr : Chain P ops Q S rest a1 F) : Chain P ops Q S (o :: rest) a F

theorem chain_start {l : List Oper} {a F : Act} (h : Chain P ops Q S l a F) : a.tmps.size = F.tmps.size ∧ a.defers = F.defers ∧ ∀ t, (∀ p ∈ l, p.dst ≠ some t) → a.tmps[t]? = F.tmps[t]? := by
  induction h with
  | nil a => exact ⟨rfl, rfl, fun _ _ => rfl⟩
  | cons v hv h hr ih =>
    obtain ⟨h1, h2, h3⟩ := ih
    subst hv
    refine ⟨by rw [← h1, put_size], by rw [← h2, put_def], fun t ht => ?_⟩
    rw [← h3 t (fun p hp => ht p (List.mem_cons_of_mem _ hp)), put_ne _ _ (ht _ List.mem_cons_self)]

theorem chain_at {l : List Oper} {a F : Act} (h : Chain P ops Q S l a F) : ∀ (k : Nat) o, l[k]? = some o → ∃ b b1 v, b.put o.dst v = b1 ∧ (∀ w, S w → wpList P ops (Step1 Q S b1) [o] b w) ∧ b.tmps.size = F.tmps.size ∧
    (∀ t, (∀ j p, k ≤ j → l[j]? = some p → p.dst ≠ some t) → b.tmps[t]? = F.tmps[t]?) ∧ (∀ t, (∀ j p, k < j → l[j]? = some p → p.dst ≠ some t) → b1.tmps[t]? = F.tmps[t]?) := by
  induction h with
  | nil a => intro k o h; simp at h
  | cons v hv h hr ih =>
    rename_i o rest a a1 F
    intro k o' hk
    have hs := chain_start hr
    cases k with
    | zero =>
      obtain rfl : o = o' := by simpa using hk
      refine ⟨a, a1, v, hv, h, ?_, fun t ht => ?_, fun t ht => ?_⟩
      · rw [← hs.1, ← hv, put_size]
      · have h1 := hs.2.2 t (fun p hp => by
          obtain ⟨j, hj⟩ := List.getElem?_of_mem hp
          exact ht (j + 1) p (by omega) (by simpa using hj))
        rw [← h1, ← hv, put_ne _ _ (ht 0 o (by omega) rfl)]
      · exact hs.2.2 t (fun p hp => by
          obtain ⟨j, hj⟩ := List.getElem?_of_mem hp
          exact ht (j + 1) p (by omega) (by simpa using hj))
    | succ k =>
      obtain ⟨b, b1, v', hb, hst, hsz, h1, h2⟩ := ih k o' (by simpa using hk)
      exact ⟨b, b1, v', hb, hst, hsz, fun t ht => h1 t (fun j p hj hp => ht (j + 1) p (by omega) (by simpa using hp)), fun t ht => h2 t (fun j p hj hp => ht (j + 1) p (by omega) (by simpa using hp))⟩

def Agree (ops : Array Oper) (F : Act) (listed : Array Bool) (a : Act) : Prop :=
  listed.size = ops.size ∧ a.tmps.size = F.tmps.size ∧ a.defers = F.defers ∧ ∀ t, (∃ j p, ops[j]? = some p ∧ p.dst = some t ∧ listed.getD j true = false) ∨ a.tmps[t]? = F.tmps[t]?

theorem count_set : ∀ (n : Nat) (l : Array Bool) (i : Nat), l.getD i true = false → ((List.range n).countP fun j => !(l.setIfInBounds i true).getD j true) + (if i < n then 1 else 0) = (List.range n).countP fun j => !l.getD j true := by
  intro n l i hi
  induction n with
  | zero => simp
  | succ n ih =>
    rw [List.range_succ, List.countP_append, List.countP_append]
    have hlt : i < l.size := by
      rcases Nat.lt_or_ge i l.size with h | h
      · exact h
      · simp [Array.getElem?_eq_none h] at hi
    by_cases h1 : i < n
    · rw [if_pos h1] at ih
      have h2 : i < n + 1 := by omega
      rw [if_pos h2]
      have h3 : (l.setIfInBounds i true).getD n true = l.getD n true := getD_set_ne true (by omega)
      simp only [List.countP_singleton, h3]
      omega
    · rw [if_neg h1] at ih
      by_cases h2 : i = n
      · subst h2
        rw [if_pos (by omega)]
        have h3 : (l.setIfInBounds i true).getD i true = true := by simp [hlt]
        simp only [List.countP_singleton, h3, hi]
        simp only [Bool.not_true, Bool.not_false, if_true, Bool.false_eq_true, if_false]
        omega
      · rw [if_neg (by omega)]
        have h3 : (l.setIfInBounds i true).getD n true = l.getD n true := getD_set_ne true (by omega)
        simp only [List.countP_singleton, h3]
        omega

theorem all_listed (hok : flatOk ops = true) {listed : Array Bool} (hr : Region.ready .any ops listed = []) : ∀ (j : Nat) p, ops[j]? = some p → listed.getD j true = true := by
  intro j
  induction j using Nat.strongRecOn with
  | _ j ih =>
    intro p hj
    cases hl : listed.getD j true
    · exfalso
      have : j ∈ Region.ready .any ops listed := mem_ready.2 ⟨hl, p, hj, fun e he hb => by
        have hlt := (flat_parts hok hj).2.1 e he hb
        have hs : e.on < ops.size := Nat.lt_trans hlt (Array.getElem?_eq_some_iff.1 hj).1
        have h1 := ih e.on hlt _ (Array.getElem?_eq_getElem hs)
        rw [Array.getD_eq_getD_getElem?] at h1 ⊢
        rcases Nat.lt_or_ge e.on listed.size with h | h
        · rw [Array.getElem?_eq_getElem h] at h1 ⊢; exact h1
        · exfalso
          have h2 : listed.getD j true = true := by
            rw [Array.getD_eq_getD_getElem?, Array.getElem?_eq_none (by omega)]; rfl
          rw [h2] at hl; cases hl⟩
      rw [hr] at this
      cases this
    · rfl

theorem flat_any (hok : flatOk ops = true) {F : Act} {a0 : Act} (hc : Chain P ops Q S ops.toList a0 F) (hQ : ∀ w, S w → Q .normal F w) :
    ∀ (fuel : Nat) (listed : Array Bool) (a : Act) (w : World), (List.range ops.size).countP (fun j => !listed.getD j true) ≤ fuel → Agree ops F listed a → S w → wpAny P .any ops Q fuel listed a w := by
  have done : ∀ (listed : Array Bool) (a : Act) (w : World), Agree ops F listed a → S w → (∀ (j : Nat) p, ops[j]? = some p → listed.getD j true = true) → Q .normal a w := by
    intro listed a w ha hS hall
    have : a = F := by
      obtain ⟨h0, h1, h2, h3⟩ := ha
      cases a; cases F
      simp only at h1 h2 h3
      congr 1
      apply Array.ext_getElem?
      intro t
      rcases h3 t with ⟨j, p, hj, _, hl⟩ | h
      · rw [hall j p hj] at hl; cases hl
      · exact h
    rw [this]
    exact hQ w hS
  intro fuel
  induction fuel with
  | zero =>
    intro listed a w hn ha hS
    have hall : ∀ (j : Nat) p, ops[j]? = some p → listed.getD j true = true := by
      intro j p hj
      have h0 : (List.range ops.size).countP (fun j => !listed.getD j true) = 0 := by omega
      rw [List.countP_eq_zero] at h0
      have := h0 j (List.mem_range.2 (Array.getElem?_eq_some_iff.1 hj).1)
      simpa using this
    refine ⟨?_, done listed a w ha hS hall⟩
    cases hr : Region.ready .any ops listed with
    | nil => rfl
    | cons x xs =>
      exfalso
      have hx : x ∈ Region.ready .any ops listed := by rw [hr]; exact List.mem_cons_self
      obtain ⟨h1, o, ho, _⟩ := mem_ready.1 hx
      rw [hall x o ho] at h1; cases h1
  | succ fuel ih =>
    intro listed a w hn ha hS
    refine ⟨fun hr => done listed a w ha hS (all_listed hok hr), fun i hi => ?_⟩
    obtain ⟨hl, o, ho, hneed⟩ := mem_ready.1 hi
    obtain ⟨hsel, hlow, hlook, hdist⟩ := flat_parts hok ho
    have hol : ops.toList[i]? = some o := by simpa using ho
    obtain ⟨b, b1, v, hb, hst, hsz, hb0, hb1⟩ := chain_at hc i o hol
    obtain ⟨g0, g1, g2, g3⟩ := ha
    have hilt : i < ops.size := (Array.getElem?_eq_some_iff.1 ho).1
    refine flat_step ho hsel (b := b) (fun t ht => ?_) (hst w hS) (by rw [← hb, put_def]) fun u w' hu hS' => ih _ _ _ ?_ ?_ hS'
    · -- what it looks at is told
      have hF : b.tmps[t]? = F.tmps[t]? := hb0 t fun j p hj hp hd => by
        obtain ⟨e, he, hbd, hon⟩ := hlook t ht j p (by simpa using hp) hd
        have := hlow e he hbd
        omega
      rcases g3 t with ⟨j, p, hj, hd, hlj⟩ | h
      · exfalso
        obtain ⟨e, he, hbd, hon⟩ := hlook t ht j p hj hd
        have := hneed e he hbd
        rw [hon] at this
        rw [Array.getD_eq_getD_getElem?] at this hlj
        have hjl : j < listed.size := by rw [g0]; exact (Array.getElem?_eq_some_iff.1 hj).1
        rw [Array.getElem?_eq_getElem hjl] at this hlj
        simp at this hlj
        rw [this] at hlj; cases hlj
      · rw [h, hF]
    · have := count_set ops.size listed i hl
      rw [if_pos hilt] at this
      omega
    · refine ⟨by simpa using g0, by rw [put_size]; exact g1, by rw [put_def]; exact g2, fun t => ?_⟩
      by_cases hd : o.dst = some t
      · right
        have hF : b1.tmps[t]? = F.tmps[t]? := hb1 t fun j p hj hp hpd => hdist j p t (by simpa using hp) (by omega) hd hpd
        rw [← hF, ← hu, hd]
        simp only [Act.put]
        rcases Nat.lt_or_ge t a.tmps.size with h | h
        · rw [Array.getElem?_setIfInBounds_self_of_lt h, Array.getElem?_setIfInBounds_self_of_lt (by rw [hsz, ← g1]; exact h)]
        · rw [Array.getElem?_eq_none (by simpa using h), Array.getElem?_eq_none (by simp; rw [hsz, ← g1]; exact h)]
      · rcases g3 t with ⟨j, p, hj, hpd, hlj⟩ | h
        · by_cases hji : j = i
          · subst hji
            rw [ho] at hj
            injection hj with hj
            subst hj
            exact absurd hpd hd
          · left
            exact ⟨j, p, hj, hpd, by rw [getD_set_ne true (Ne.symm hji)]; exact hlj⟩
        · right
          rw [put_ne _ _ hd, h]

/-- What is left to be walked: the steps of l from the frame a on; K of the frame at the end. -/
def Flat (P : Program) (ops : Array Oper) (Q : Exit → Act → World → Prop) (S : World → Prop) (K : Act → Prop) (l : List Oper) (a : Act) : Prop := ∃ F, Chain P ops Q S l a F ∧ K F
theorem Flat.nil {K : Act → Prop} {a : Act} (h : K a) : Flat P ops Q S K [] a := ⟨a, .nil a, h⟩
theorem Flat.cons {K : Act → Prop} {o : Oper} {rest : List Oper} {a a1 : Act} {v : Value} (h : ∀ w, S w → wpList P ops (Step1 Q S a1) [o] a w) (hv : a.put o.dst v = a1) (hr : Flat P ops Q S K rest a1) : Flat P ops Q S K (o :: rest) a := by
  obtain ⟨F, hc, hK⟩ := hr
  exact ⟨F, .cons v hv h hc, hK⟩
theorem flat_end {a a1 : Act} {w : World} (ha : a = a1) (h : S w) : Step1 Q S a1 .normal a w := ⟨ha, h⟩
/-- THE LAW: a region that draws, in the text's order. -/
theorem wp_region_flat {id : Nat} {a : Act} {w : World} (S : World → Prop) (hm : P.follows .mixedOrders = true) (hok : flatOk ops = true) (hS : S w.drew)
    (hc : Flat P ops Q S (fun F => ∀ w, S w → Q .normal F w) ops.toList a) : (Code.region id ops true).wp P Q a w := by
  obtain ⟨F, hc, hQ⟩ := hc
  refine wp_region_any hm (flat_any hok hc hQ ops.size _ a _ ?_ ?_ hS)
  · exact Nat.le_trans (List.countP_le_length) (by simp)
  · obtain ⟨h1, h2, h3⟩ := chain_start hc
    refine ⟨by simp, h1, h2, fun t => ?_⟩
    by_cases h : ∃ p ∈ ops.toList, p.dst = some t
    · left
      obtain ⟨p, hp, hd⟩ := h
      obtain ⟨j, hj⟩ := List.getElem?_of_mem hp
      have hj' : ops[j]? = some p := by simpa using hj
      have hlt := (Array.getElem?_eq_some_iff.1 hj').1
      exact ⟨j, p, hj', hd, by simp [hlt]⟩
    · right
      exact h3 t fun p hp hd => h ⟨p, hp, hd⟩

/-! ### a region in which some operations write: what only reads is taken first, one by one; what writes comes where nothing else may come up -/
def pureOp (o : Oper) : Bool := match o.op with
  | .move _ | .assign _ | .pick _ _ _ | .load _ _ | .binOp _ _ _ _ _ | .unOp _ _ _ | .convert _ _ _ | .slice _ _ _ _ _ | .fieldAddr _ _ _ | .indexAddr _ _ _ | .makeInterface _ _ | .extract _ _ => true
  | _ => false
theorem value_of {s : Sem Value} {w w' : World} {n : Next} (h : Sem.run P (do pure (Next.value (← s))) w = .ok n w') : ∃ v, n = .value v := by
  simp only [Sem.run_bind] at h
  cases hs : s.run P w with
  | ok v w1 => rw [hs] at h; simp [Result.andThen] at h; exact ⟨v, h.1.symm⟩
  | halt x w1 => rw [hs] at h; simp [Result.andThen] at h
theorem pure_value {o : Oper} (hp : pureOp o = true) {ρ : Operand → Value} {w w' : World} {n : Next} (h : (execOp ρ o).run P w = .ok n w') : ∃ v, n = .value v := by
  obtain ⟨dst, op, type, pos, after, guard⟩ := o
  cases op <;> simp only [pureOp, Bool.false_eq_true] at hp <;> simp only [execOp] at h
  case move => simp at h; exact ⟨_, h.1.symm⟩
  case assign => simp at h; exact ⟨_, h.1.symm⟩
  case pick c a b =>
    simp only [Sem.run_bind] at h
    cases hs : (asBool (ρ c)).run P w with
    | ok v w1 => rw [hs] at h; simp [Result.andThen] at h; exact ⟨_, h.1.symm⟩
    | halt x w1 => rw [hs] at h; simp [Result.andThen] at h
  all_goals exact value_of h
/-- A pure step's post: the frame is a1, the world as it was. -/
def Pure1 (a1 : Act) (w0 : World) : Exit → Act → World → Prop
  | .normal, a, w => a = a1 ∧ w = w0
  | _, _, _ => False
theorem pure_end {a a1 : Act} {w w0 : World} (ha : a = a1) (h : w = w0) : Pure1 a1 w0 .normal a w := ⟨ha, h⟩
theorem yields_of_list {o : Oper} {a a1 : Act} {v : Value} (hp : pureOp o = true) {d : Tmp} (hd : o.dst = some d) (hsz : d < a.tmps.size) (h : ∀ w, S w → wpList P ops (Pure1 a1 w) [o] a w) (hv : a.put o.dst v = a1) : ∀ w, S w → YieldsIf P ops (fun w' => w' = w) o v a := by
  intro w hS
  have hinj : ∀ u, a.put o.dst u = a1 → u = v := by
    intro u hu
    rw [← hv, hd] at hu
    have := congrArg (fun z : Act => z.tmps[d]?) hu
    simpa [Act.put, hsz] using this
  have h1 := h w hS
  unfold wpList at h1
  by_cases hw : Region.wanted o (yielded ops a.tmps) = true
  · rw [if_pos hw] at h1
    rcases h1 with h1 | ⟨_, _, _, h1⟩
    · refine .inl ⟨hw, fun w1 hw1 => ?_⟩
      subst hw1
      unfold Oper.wp at h1
      cases hr : (execOp a.eval o).run P w1 with
      | ok n w2 =>
        obtain ⟨u, rfl⟩ := pure_value hp hr
        rw [hr] at h1
        simp only [Oper.upon, wpList, Pure1] at h1
        rw [hinj u h1.1, h1.2]
      | halt x w2 =>
        rw [hr] at h1
        cases x <;> simp only [Oper.upon, Pure1] at h1
    · exact h1.elim
  · have hw' : Region.wanted o (yielded ops a.tmps) = false := by simpa using hw
    rw [if_neg hw] at h1
    exact .inr ⟨hw', (hinj _ h1.1).symm⟩
theorem yieldsIf_of {o : Oper} {a : Act} {v : Value} (h : ∀ w, S w → YieldsIf P ops (fun w' => w' = w) o v a) {w : World} (hS : S w) : YieldsIf P ops S o v a := by
  by_cases hw : Region.wanted o (yielded ops a.tmps) = true
  · refine .inl ⟨hw, fun w' hS' => ?_⟩
    rcases h w' hS' with ⟨_, h1⟩ | ⟨h1, _⟩
    · exact h1 w' rfl
    · rw [hw] at h1; cases h1
  · have hw' : Region.wanted o (yielded ops a.tmps) = false := by simpa using hw
    rcases h w hS with ⟨h1, _⟩ | ⟨_, h1⟩
    · rw [hw'] at h1; cases h1
    · exact .inr ⟨hw', h1⟩
/-- Take number i, which only reads. -/
theorem hTake (i : Nat) {oi : Oper} {fuel : Nat} {listed listed1 : Array Bool} {a a1 : Act} {w : World} {v : Value} {d : Tmp} (hi : ops[i]? = some oi) (hp : pureOp oi = true) (hd : oi.dst = some d) (hsz : d < a.tmps.size)
    (hs : Region.noSelect ops = true) (hf : Region.free .any ops listed i = true) (hr : (Region.ready .any ops listed).contains i = true) (hl : listed.setIfInBounds i true = listed1)
    (hQ : ∀ c a w, Q (.panic c) (a.put oi.dst v) w → Q (.panic c) a w) (hS : S w) (h : ∀ w, S w → wpList P ops (Pure1 a1 w) [oi] a w) (hv : a.put oi.dst v = a1)
    (hn : wpAnyH P .any ops Q S fuel listed1 a1 w) : wpAnyH P .any ops Q S (fuel + 1) listed a w := by
  subst hl
  refine wpAnyH_take hi hs hf hr hQ (yieldsIf_of (yields_of_list hp hd hsz h hv) hS) hS ?_
  rw [hv]
  exact hn
/-- What a step that writes owes. -/
def Eff1 (P : Program) (ops : Array Oper) (Q : Exit → Act → World → Prop) (S : World → Prop) (fuel : Nat) (listed : Array Bool) : Exit → Act → World → Prop
  | .normal, a, w => S w ∧ wpAnyH P .any ops Q S fuel listed a w
  | e, a, w => Q e a w
theorem eff_end {fuel : Nat} {listed : Array Bool} {a : Act} {w : World} (hS : S w) (h : wpAnyH P .any ops Q S fuel listed a w) : Eff1 P ops Q S fuel listed .normal a w := ⟨hS, h⟩
/-- Number i, when nothing else may come up. -/
theorem hEff (i : Nat) {oi : Oper} {fuel : Nat} {listed listed1 : Array Bool} {a : Act} {w : World} (hi : ops[i]? = some oi) (hr : (Region.ready .any ops listed == [i]) = true) (hl : listed.setIfInBounds i true = listed1)
    (h : wpList P ops (Eff1 P ops Q S fuel listed1) [oi] a w) : wpAnyH P .any ops Q S (fuel + 1) listed a w := by
  subst hl
  refine wpAnyH_all (rs := [i]) (by simpa using hr) (by simp) fun j hj => ?_
  obtain rfl : j = i := by simpa using hj
  unfold wpOp
  simp only [hi]
  unfold wpList at h
  have hlets : LetsOut (Eff1 P ops Q S fuel (listed.setIfInBounds j true)) → LetsOut Q := fun ⟨x, y, hh⟩ => ⟨x, y, hh⟩
  split
  · rename_i hw
    rw [if_pos hw] at h
    rcases h with h | ⟨h1, h2⟩
    · refine .inl ?_
      unfold Oper.wp at *
      generalize (execOp a.eval oi).run P w = r at *
      cases r with
      | ok n w' =>
        cases n <;> simp only [Oper.upon, wpList] at h ⊢
        case value u => exact h
        case skip => exact h
        case defer d => exact h
        case enter f args =>
          refine Calls.mono h fun e w'' hh => ?_
          cases e with
          | returned u => exact hh
          | panicked c => exact hh
          | outgrown => exact hlets hh
        case row row args => exact Rows.mono h fun u w'' hh => hh
      | halt x w' =>
        cases x <;> simp only [Oper.upon] at h ⊢
        case panic u => exact h
    · exact .inr ⟨h1, hlets h2⟩
  · rename_i hw
    rw [if_neg hw] at h
    exact h
theorem hDone {fuel : Nat} {listed : Array Bool} {a : Act} {w : World} (hr : (Region.ready .any ops listed == []) = true) (h : Q .normal a w) : wpAnyH P .any ops Q S fuel listed a w := wpAnyH_done (by simpa using hr) h fuel
end
end Go.Proofs.YtcnmefocbjilbaaFlat
namespace Go.Proofs.Ytcnmefocbjilbaa.G
open Go.RowKit Go.Proofs.YtcnmefocbjilbaaW.PrintWords Go.Proofs.YtcnmefocbjilbaaW.PrintLast Go.Proofs.YtcnmefocbjilbaaW.PrintMore
set_option maxHeartbeats 400000

/-! ### the order of texts -/
theorem bl_eq : ∀ (a b : List UInt8), Op.bytesLess a b = decide (a < b)
  | [], [] => by simp [Op.bytesLess]
  | _ :: _, [] => by simp [Op.bytesLess]
  | [], _ :: _ => by simp [Op.bytesLess]
  | a :: x, b :: y => by
    rw [Op.bytesLess, bl_eq x y]
    simp only [List.cons_lt_cons_iff]
    by_cases h1 : a < b <;> by_cases h2 : a = b <;> by_cases h3 : x < y <;> simp [h1, h2, h3]
theorem bl_irrefl (a : List UInt8) : Op.bytesLess a a = false := by rw [bl_eq]; simp
theorem bl_trans {a b c : List UInt8} (h : Op.bytesLess a b = true) (k : Op.bytesLess b c = true) : Op.bytesLess a c = true := by
  rw [bl_eq] at *
  simp only [decide_eq_true_eq] at *
  exact List.lt_trans h k
theorem bl_asymm {a b : List UInt8} (h : Op.bytesLess a b = true) : Op.bytesLess b a = false := by
  rw [bl_eq] at *
  simp only [decide_eq_true_eq, decide_eq_false_iff_not] at *
  exact List.lt_asymm h
theorem bl_tri {a b : List UInt8} (h : Op.bytesLess a b = false) (k : Op.bytesLess b a = false) : a = b := by
  rw [bl_eq] at *
  simp only [decide_eq_false_iff_not] at *
  exact List.le_antisymm (List.not_lt.1 k) (List.not_lt.1 h)
theorem bl_gtr (a b : List UInt8) : (!Op.bytesLess a b && !a == b) = Op.bytesLess b a := by
  cases h : Op.bytesLess a b
  · cases k : Op.bytesLess b a
    · simp [bl_tri h k]
    · simp only [Bool.not_false, Bool.true_and, Bool.not_eq_true', beq_eq_false_iff_ne]
      rintro rfl
      rw [bl_irrefl] at k; cases k
  · simp [bl_asymm h]
theorem tl_inj {a b : ByteArray} (h : a.toList = b.toList) : a = b := by
  rw [Lib.toList_data, Lib.toList_data] at h
  cases a; cases b
  simp only at h
  congr 1
  exact Array.toList_inj.1 h

/-! ### must -/
theorem must_yes (e : Int) (w : World) : Calls Try.prog 27 #[.bool true, .int .i64 e] w fun r w' => r = .returned (.tuple #[]) ∧ w = w' := by
  go_enter Try.func27, Try.ntmps27
  go_wp2
  go_end0
  exact ⟨rfl, rfl⟩

theorem must_no (e : Int) (w : World) : Calls Try.prog 27 #[.bool false, .int .i64 e] w fun r w' => r = .panicked [{ v := .iface 31 (.int .i64 e), recovered := false }] ∧ w = w' := by
  go_enter Try.func27, Try.ntmps27
  go_wp2
  exact ⟨rfl, rfl, rfl⟩

/-! ### above -/
theorem above_calls (A : Option Addr) (n c : Nat) (key : ByteArray) (w : World) :
    Calls Try.prog 59 #[.slice A n c, .string key] w fun r w' => r = .returned (.func (.func 73) #[] #[.pointer (some ⟨w.heap.size, 0, none⟩), .pointer (some ⟨w.heap.size + 1, 0, none⟩)]) ∧ w' = (w.alloc (.cells #[.slice A n c] 87)).alloc (.cells #[.string key] 9) := by
  have hmf : ∀ (fn : Fn) (first cap : Array Value) (w : World), (Instr.makeFunc fn first cap).run Try.prog w = .ok (.func fn first cap) w := fun _ _ _ _ => rfl
  go_enter Try.func59, Try.ntmps59
  go_wp2
  go_ret
  exact ⟨rfl, rfl⟩

theorem above1_calls (i : Int) (A : Option Addr) (c b1 b2 : Nat) (l : List S40) (key : ByteArray) (w : World) (h0 : 0 ≤ i) (h1 : i < (l.length : Int))
    (hb1 : w.cell? ⟨b1, 0, none⟩ = some (.slice A l.length c)) (hb2 : w.cell? ⟨b2, 0, none⟩ = some (.string key)) (HR : Kd.C k40 w A l.length l) :
    Calls Try.prog 73 #[.int .i64 i, .pointer (some ⟨b1, 0, none⟩), .pointer (some ⟨b2, 0, none⟩)] w fun r w' => r = .returned (.bool (Op.bytesLess key.toList (rd_T40 l i).f0.toList)) ∧ Drawn0 w w' := by
  obtain ⟨ad, rfl, hx0, hx1⟩ := at_T40 HR i h0 h1
  clear HR
  go_enter Try.func73, Try.ntmps73
  go_wp2
  repeat (go_quiet (fail); try go_wp2)
  go_ret
  exact ⟨by simp [bl_gtr], by repeat (first | exact Drawn0.refl _ | apply Drawn0.step)⟩
end Go.Proofs.Ytcnmefocbjilbaa.G
namespace Go.Proofs.Ytcnmefocbjilbaa.G
open Go.RowKit Go.Proofs.YtcnmefocbjilbaaW.PrintWords Go.Proofs.YtcnmefocbjilbaaW.PrintLast Go.Proofs.YtcnmefocbjilbaaW.PrintMore
set_option maxHeartbeats 400000

def searchPost (l : List S40) (key : ByteArray) (w : World) (r : Ending) (w' : World) : Prop :=
  ∃ n : Int, r = .returned (.int .i64 n) ∧ 0 ≤ n ∧ n ≤ l.length ∧ (0 < n → Op.bytesLess key.toList (rd_T40 l (n - 1)).f0.toList = false) ∧ (n < l.length → Op.bytesLess key.toList (rd_T40 l n).f0.toList = true) ∧ Drawn0 w w'

theorem search_calls (A : Option Addr) (c b1 b2 : Nat) (l : List S40) (key : ByteArray) (w : World)
    (hb1 : w.cell? ⟨b1, 0, none⟩ = some (.slice A l.length c)) (hb2 : w.cell? ⟨b2, 0, none⟩ = some (.string key)) (HR : Kd.C k40 w A l.length l) (hl : l.length ≤ 4398046511104) :
    Calls Try.prog 60 #[.int .i64 (l.length : Int), .func (.func 73) #[] #[.pointer (some ⟨b1, 0, none⟩), .pointer (some ⟨b2, 0, none⟩)]] w (searchPost l key w) := by
  have HR0 := Aside0.mk HR
  have HB1 := Aside0.mk hb1
  have HB2 := Aside0.mk hb2
  clear HR hb1 hb2
  go_enter Try.func60, Try.ntmps60
  go_wp2
  go_loopw [5, 6] (fun v5 v6 w' => ∃ I J : Int, v5 = .int .i64 I ∧ v6 = .int .i64 J ∧ 0 ≤ I ∧ I ≤ J ∧ J ≤ l.length ∧ Aside0 (0 < I → Op.bytesLess key.toList (rd_T40 l (I - 1)).f0.toList = false) ∧ Aside0 (J < l.length → Op.bytesLess key.toList (rd_T40 l J).f0.toList = true) ∧ Drawn0 w w') (fun v5 v6 _ => (intOf v6 - intOf v5).toNat)
  case atStart => exact ⟨0, l.length, rfl, rfl, by omega, by omega, by omega, ⟨fun h => absurd h (by omega)⟩, ⟨fun h => absurd h (by omega)⟩, Drawn0.refl _⟩
  case round =>
    obtain ⟨I, J, rfl, rfl, hI, hIJ, hJ, H1, H2, ⟨m, rfl⟩⟩ := hrel
    by_cases hlt : I < J
    · have hd0 : 0 ≤ (I + J) / 2 := by omega
      have hd1 : (I + J) / 2 < (l.length : Int) := by omega
      have hd2 : I ≤ (I + J) / 2 := by omega
      have hd3 : (I + J) / 2 < J := by omega
      go_wp2_with fail
      refine (above1_calls _ A c b1 b2 l key _ hd0 hd1 (by exact HB1.out) (by exact HB2.out) (by exact Kd.C_drewN HR0.out m)).mono ?_
      rintro e w1 ⟨rfl, ⟨m1, rfl⟩⟩
      cases hb : Op.bytesLess key.toList (rd_T40 l ((I + J) / 2)).f0.toList
      · have HB := Aside0.mk hb
        clear hb
        go_wp2
        go_roundw
        case rel => exact ⟨(I + J) / 2 + 1, J, by go_num, rfl, by omega, by omega, hJ, ⟨fun _ => by rw [Int.add_sub_cancel]; exact HB.out⟩, H2, by repeat (first | exact Drawn0.refl _ | apply Drawn0.step)⟩
        case measure => simp [intOf]; omega
      · have HB := Aside0.mk hb
        clear hb
        go_wp2
        go_roundw
        case rel => exact ⟨I, (I + J) / 2, rfl, by go_num, hI, hd2, by omega, H1, ⟨fun _ => HB.out⟩, by repeat (first | exact Drawn0.refl _ | apply Drawn0.step)⟩
        case measure => simp [intOf]; omega
    · obtain rfl : I = J := by omega
      clear hlt
      go_wp2
      go_ret
      exact ⟨I, rfl, hI, hJ, H1.out, H2.out, by repeat (first | exact Drawn0.refl _ | apply Drawn0.step)⟩
end Go.Proofs.Ytcnmefocbjilbaa.G
namespace Go.Proofs.Ytcnmefocbjilbaa.G
open Go.RowKit Go.Proofs.YtcnmefocbjilbaaW.PrintWords Go.Proofs.YtcnmefocbjilbaaW.PrintLast Go.Proofs.YtcnmefocbjilbaaW.PrintMore
set_option maxHeartbeats 400000

def fitsB (c : S40) : Bool := decide (c.f0.size ≤ 513) && decide (c.f1.size ≤ 2048)
def lessC (c d : S40) : Bool := Op.bytesLess c.f0.toList d.f0.toList
def rightB : List S40 → Bool
  | [] => true
  | [c] => fitsB c
  | c :: d :: r => fitsB c && lessC c d && rightB (d :: r)

theorem fits_calls (a b : ByteArray) (w : World) : Calls Try.prog 43 #[.agg #[.string a, .string b]] w fun r w' => r = .returned (.bool (fitsB ⟨a, b⟩)) ∧ Below w.heap.size w w' := by
  unfold fitsB
  by_cases h1 : a.size ≤ 513
  all_goals by_cases h2 : b.size ≤ 2048
  all_goals
    go_enter Try.func43, Try.ntmps43
    go_wp2
    go_ret
    exact ⟨by first | (simp [h1, h2]; done) | (simp [h1, h2]; omega), (Below.refl _ _).alloc (Nat.le_refl _) _⟩
theorem cright_calls (a b : ByteArray) (w : World) : Calls Try.prog 49 #[.agg #[.string a, .string b]] w fun r w' => r = .returned (.bool (fitsB ⟨a, b⟩)) ∧ Below w.heap.size w w' := by
  unfold fitsB
  by_cases h1 : a.size ≤ 513
  all_goals by_cases h2 : b.size ≤ 2048
  all_goals
    go_enter Try.func49, Try.ntmps49
    go_wp2
    go_ret
    exact ⟨by first | (simp [h1, h2]; done) | (simp [h1, h2]; omega), (Below.refl _ _).alloc (Nat.le_refl _) _⟩

/-- The i-th cell is fine: it fits, and stands behind the one ahead of it. -/
def fineAt (l : List S40) (i : Nat) : Bool := fitsB (rd_T40 l i) && (decide (i = 0) || lessC (rd_T40 l ((i : Int) - 1)) (rd_T40 l i))
theorem rightB_iff (l : List S40) : rightB l = true ↔ ∀ i, i < l.length → fineAt l i = true := by
  induction l using rightB.induct with
  | case1 => simp [rightB]
  | case2 c => simp [rightB, fineAt, rd_T40]
  | case3 c d r ih =>
    rw [rightB, Bool.and_eq_true, Bool.and_eq_true, ih]
    constructor
    · rintro ⟨⟨h1, h2⟩, h3⟩ i hi
      match i with
      | 0 => simp [fineAt, rd_T40, h1]
      | 1 =>
        have := h3 0 (by simp)
        simp [fineAt, rd_T40] at this
        simp [fineAt, rd_T40, h2, this]
      | i + 2 =>
        have := h3 (i + 1) (by simp at hi ⊢; omega)
        have e1 : (((i + 2 : Nat) : Int) - 1).toNat = i + 1 := by omega
        have e2 : (((i + 1 : Nat) : Int) - 1).toNat = i := by omega
        simp only [fineAt, rd_T40, e1, e2, Int.toNat_natCast, List.getD_cons_succ] at this ⊢
        simpa using this
    · intro h
      refine ⟨⟨?_, ?_⟩, fun i hi => ?_⟩
      · have := h 0 (by simp); simpa [fineAt, rd_T40] using this
      · have := h 1 (by simp); simp [fineAt, rd_T40] at this; exact this.2
      · have h1 := h (i + 1) (by simpa using hi)
        match i with
        | 0 => simp [fineAt, rd_T40] at h1 ⊢; exact h1.1
        | i + 1 =>
          have e1 : (((i + 1 + 1 : Nat) : Int) - 1).toNat = i + 1 := by omega
          have e2 : (((i + 1 : Nat) : Int) - 1).toNat = i := by omega
          simp only [fineAt, rd_T40, e1, e2, Int.toNat_natCast, List.getD_cons_succ] at h1 ⊢
          simpa using h1
end Go.Proofs.Ytcnmefocbjilbaa.G
namespace Go.Proofs.Ytcnmefocbjilbaa.G
open Go.RowKit Go.Proofs.YtcnmefocbjilbaaW.PrintWords Go.Proofs.YtcnmefocbjilbaaW.PrintLast Go.Proofs.YtcnmefocbjilbaaW.PrintMore
set_option maxHeartbeats 1000000

theorem right_false {l : List S40} {i : Nat} (hi : i < l.length) (h : fineAt l i = false) : rightB l = false := by
  cases hr : rightB l
  · rfl
  · rw [(rightB_iff l).1 hr i hi] at h; cases h

theorem below_alloc2 {w W : World} (h : Below w.heap.size w W) (o : Obj) : Below w.heap.size w (W.alloc o) := below_alloc h o
theorem cell_new2 (w : World) (cs : Array Value) (t : TypeId) (j : Nat) (v : Value) (h : cs[j]? = some v) : (w.alloc (.cells cs t (0, 0))).cell? ⟨w.heap.size, j, none⟩ = some v := by
  rw [cell_of_row _ _ j cs t (0, 0) (heap_alloc_new w _)]; exact h
theorem cright_is (a b : ByteArray) (v : Bool) (w : World) (h : fitsB ⟨a, b⟩ = v) : Calls Try.prog 49 #[.agg #[.string a, .string b]] w fun r w' => r = .returned (.bool v) ∧ Below w.heap.size w w' := h ▸ cright_calls a b w
theorem fits_is (a b : ByteArray) (v : Bool) (w : World) (h : fitsB ⟨a, b⟩ = v) : Calls Try.prog 43 #[.agg #[.string a, .string b]] w fun r w' => r = .returned (.bool v) ∧ Below w.heap.size w w' := h ▸ fits_calls a b w
theorem bool_of (b v : Bool) (h : b = v) : Ending.returned (.bool v) = .returned (.bool b) := by rw [h]
theorem cells_Right_calls (A : Option Addr) (c : Nat) (l : List S40) (w : World) (HR : Kd.C k40 w A l.length l) :
    Calls Try.prog 24 #[.slice A l.length c] w fun r w' => r = .returned (.bool (rightB l)) ∧ Below w.heap.size w w' := by
  have HR0 := Aside0.mk HR
  have hm := Kd.C_max HR
  clear HR
  go_enter Try.func24, Try.ntmps24
  go_wp2
  go_loopw [7] (fun v7 w' => ∃ k : Nat, k ≤ l.length ∧ v7 = .int .i64 k ∧ Aside0 (∀ i, i < k → fineAt l i = true) ∧ Aside0 (Below w.heap.size w w')) (fun v7 _ => l.length - (intOf v7).toNat)
  case atStart => exact ⟨0, by omega, rfl, ⟨fun i h => absurd h (by omega)⟩, ⟨Below.refl _ _⟩⟩
  case round =>
    obtain ⟨k, hk, rfl, HF, HB⟩ := hrel
    by_cases hlt : k < l.length
    · obtain ⟨ad, rfl, hx0, hx1⟩ := at_T40 HR0.out k (by omega) (by omega)
      replace hx0 := pw_cell_below HB.out hx0
      replace hx1 := pw_cell_below HB.out hx1
      simp only [Int.toNat_natCast] at hx0 hx1
      have hp : 0 < k → w.cell? (ad.add ((k - 1) * 2)) = some (.string (rd_T40 l ((k : Int) - 1)).f0) := fun h => by
        obtain ⟨ad', e, hz, _⟩ := at_T40 HR0.out ((k : Int) - 1) (by omega) (by omega)
        cases e
        rw [show ((k : Int) - 1).toNat = k - 1 by omega] at hz
        exact hz
      go_wp2_with fail
      have hB1 := below_alloc2 HB.out (Obj.cells #[.string (rd_T40 l k).f0, .string (rd_T40 l k).f1] 40 (0, 0))
      have hy0 := cell_new2 wr #[.string (rd_T40 l k).f0, .string (rd_T40 l k).f1] 40 0 _ rfl
      have hy1 := cell_new2 wr #[.string (rd_T40 l k).f0, .string (rd_T40 l k).f1] 40 1 _ rfl
      generalize (wr.alloc (Obj.cells #[.string (rd_T40 l k).f0, .string (rd_T40 l k).f1] 40 (0, 0))) = W1 at hB1 hy0 hy1 ⊢
      generalize wr.heap.size = g at hy0 hy1 ⊢
      have HB1 := Aside0.mk hB1
      have HP := Aside0.mk hp
      clear hB1 hx0 hx1 hp
      cases hf : fitsB (rd_T40 l k)
      · have Hf := Aside0.mk hf
        clear hf
        refine YtcnmefocbjilbaaFlat.wp_region_flat (fun w' => w'.cell? ⟨g, 0, none⟩ = some (.string (rd_T40 l k).f0) ∧ w'.cell? ⟨g, 1, none⟩ = some (.string (rd_T40 l k).f1) ∧ Below w.heap.size w w') (by kernel_rfl) (by kernel_rfl) ⟨hy0, hy1, below_drew HB1.out⟩ ?_
        repeat
          (apply YtcnmefocbjilbaaFlat.Flat.cons
           · intro w' hS
             obtain ⟨s0, s1, s2⟩ := hS
             have S2 := Aside0.mk s2
             clear s2
             go_wp2_with (go_at_call 49; refine (cright_is _ _ false _ (by exact Hf.out)).mono ?_; rintro e w' ⟨rfl, hb⟩)
             first
             | exact YtcnmefocbjilbaaFlat.flat_end rfl ⟨s0, s1, S2.out⟩
             | exact YtcnmefocbjilbaaFlat.flat_end rfl ⟨pw_cell_below hb s0, pw_cell_below hb s1, S2.out.trans (hb.mono S2.out.size)⟩
           · exact rfl)
        refine YtcnmefocbjilbaaFlat.Flat.nil fun W2 hS => ?_
        have HB2 := Aside0.mk hS.2.2
        clear hS
        go_wp2
        go_ret
        exact ⟨bool_of _ _ (right_false hlt (by simp [fineAt, Hf.out])), HB2.out⟩
      · have Hf := Aside0.mk hf
        clear hf
        by_cases h0 : k = 0
        · subst h0
          clear HP
          refine YtcnmefocbjilbaaFlat.wp_region_flat (fun w' => w'.cell? ⟨g, 0, none⟩ = some (.string (rd_T40 l ((0 : Nat) : Int)).f0) ∧ w'.cell? ⟨g, 1, none⟩ = some (.string (rd_T40 l ((0 : Nat) : Int)).f1) ∧ Below w.heap.size w w') (by kernel_rfl) (by kernel_rfl) ⟨hy0, hy1, below_drew HB1.out⟩ ?_
          repeat
            (apply YtcnmefocbjilbaaFlat.Flat.cons
             · intro w' hS
               obtain ⟨s0, s1, s2⟩ := hS
               have S2 := Aside0.mk s2
               clear s2
               go_wp2_with (go_at_call 49; refine (cright_is _ _ true _ (by exact Hf.out)).mono ?_; rintro e w' ⟨rfl, hb⟩)
               first
               | exact YtcnmefocbjilbaaFlat.flat_end rfl ⟨s0, s1, S2.out⟩
               | exact YtcnmefocbjilbaaFlat.flat_end rfl ⟨pw_cell_below hb s0, pw_cell_below hb s1, S2.out.trans (hb.mono S2.out.size)⟩
             · exact rfl)
          refine YtcnmefocbjilbaaFlat.Flat.nil fun W2 hS => ?_
          have HB2 := Aside0.mk hS.2.2
          clear hS
          go_wp2
          go_roundw
          case rel => exact ⟨1, by omega, by go_num, ⟨fun i h => by obtain rfl : i = 0 := by omega
                                                                    simp [fineAt]; exact Hf.out⟩, HB2⟩
          case measure => simp [intOf]; omega
        · have hk0 : 0 < k := by omega
          have hq := HP.out hk0
          clear HP h0
          have hle : (0 : Int) < (k : Int) := by omega
          have hi0 : (0 : Int) ≤ (k : Int) - 1 := by omega
          have hi1 : (k : Int) - 1 < (l.length : Int) := by omega
          cases hl : lessC (rd_T40 l ((k : Int) - 1)) (rd_T40 l k)
          all_goals
            have Hl := Aside0.mk hl
            unfold lessC at hl
            refine YtcnmefocbjilbaaFlat.wp_region_flat (fun w' => w'.cell? ⟨g, 0, none⟩ = some (.string (rd_T40 l k).f0) ∧ w'.cell? ⟨g, 1, none⟩ = some (.string (rd_T40 l k).f1) ∧ Below w.heap.size w w') (by kernel_rfl) (by kernel_rfl) ⟨hy0, hy1, below_drew HB1.out⟩ ?_
            repeat
              (apply YtcnmefocbjilbaaFlat.Flat.cons
               · intro w' hS
                 obtain ⟨s0, s1, s2⟩ := hS
                 have S2 := Aside0.mk s2
                 have hq' := pw_cell_below s2 hq
                 clear s2
                 go_wp2_with (go_at_call 49; refine (cright_is _ _ true _ (by exact Hf.out)).mono ?_; rintro e w' ⟨rfl, hb⟩)
                 first
                 | exact YtcnmefocbjilbaaFlat.flat_end rfl ⟨s0, s1, S2.out⟩
                 | exact YtcnmefocbjilbaaFlat.flat_end rfl ⟨pw_cell_below hb s0, pw_cell_below hb s1, S2.out.trans (hb.mono S2.out.size)⟩
               · exact rfl)
            refine YtcnmefocbjilbaaFlat.Flat.nil fun W2 hS => ?_
            have HB2 := Aside0.mk hS.2.2
            clear hS hl
            go_wp2
          · go_ret
            exact ⟨bool_of _ _ (right_false hlt (by simp [fineAt, Hl.out, Hf.out]; omega)), HB2.out⟩
          · go_roundw
            case rel => exact ⟨k + 1, by omega, by go_num, ⟨fun i h => by
              rcases Nat.lt_or_ge i k with h1 | h1
              · exact HF.out i h1
              · obtain rfl : i = k := by omega
                simp [fineAt, Hl.out, Hf.out]⟩, HB2⟩
            case measure => simp [intOf]; omega
    · obtain rfl : k = l.length := by omega
      clear hlt
      go_wp2
      go_ret
      exact ⟨bool_of _ _ ((rightB_iff l).2 HF.out), HB.out⟩
end Go.Proofs.Ytcnmefocbjilbaa.G
namespace Go.Proofs.Ytcnmefocbjilbaa.G
open Go.RowKit Go.Proofs.YtcnmefocbjilbaaW.PrintWords Go.Proofs.YtcnmefocbjilbaaW.PrintLast Go.Proofs.YtcnmefocbjilbaaW.PrintMore
open Go.Proofs.YtcnmefocbjilbaaFlat
set_option maxHeartbeats 1000000

theorem leq_of {a b : List UInt8} {v : Bool} (h : Op.bytesLess b a = v) : (Op.bytesLess a b || a == b) = !v := by
  subst h
  cases h : Op.bytesLess b a
  · cases k : Op.bytesLess a b
    · simp [bl_tri k h]
    · simp
  · rw [bl_asymm h]
    simp only [Bool.false_or, Bool.not_true, beq_eq_false_iff_ne]
    rintro rfl
    rw [bl_irrefl] at h; cases h

theorem ref10_Right_calls (A : Option Addr) (c : Nat) (l : List S40) (w : World) (HR : Kd.C k40 w A l.length l) :
    Calls Try.prog 16 #[.slice A l.length c] w fun r w' => r = .returned (.bool (rightB l)) ∧ Below w.heap.size w w' := by
  have HR0 := Aside0.mk HR
  have hm := Kd.C_max HR
  clear HR
  go_enter Try.func16, Try.ntmps16
  go_wp2
  go_loopw [3] (fun v3 w' => ∃ k : Nat, k ≤ l.length ∧ v3 = .int .i64 k ∧ Aside0 (∀ i, i < k → fineAt l i = true) ∧ Aside0 (Below w.heap.size w w')) (fun v3 _ => l.length - (intOf v3).toNat)
  case atStart => exact ⟨0, by omega, rfl, ⟨fun i h => absurd h (by omega)⟩, ⟨Below.refl _ _⟩⟩
  case round =>
    obtain ⟨k, hk, rfl, HF, HB⟩ := hrel
    by_cases hlt : k < l.length
    · obtain ⟨ad, rfl, hx0, hx1⟩ := at_T40 HR0.out k (by omega) (by omega)
      simp only [Int.toNat_natCast] at hx0 hx1
      have hp : 0 < k → w.cell? (ad.add ((k - 1) * 2)) = some (.string (rd_T40 l ((k : Int) - 1)).f0) := fun h => by
        obtain ⟨ad', e, hz, _⟩ := at_T40 HR0.out ((k : Int) - 1) (by omega) (by omega)
        cases e
        rw [show ((k : Int) - 1).toNat = k - 1 by omega] at hz
        exact hz
      have HP := Aside0.mk hp
      have X0 := Aside0.mk hx0
      have X1 := Aside0.mk hx1
      clear hx0 hx1 hp
      go_wp2_with fail
      cases hf : fitsB (rd_T40 l k)
      · have Hf := Aside0.mk hf
        clear hf
        refine wp_region_flat (Below w.heap.size w) (by kernel_rfl) (by kernel_rfl) (below_drew HB.out) ?_
        repeat
          (apply Flat.cons
           · intro w' hS
             have S2 := Aside0.mk hS
             have s0 := pw_cell_below hS X0.out
             have s1 := pw_cell_below hS X1.out
             clear hS
             go_wp2_with (go_at_call 43; refine (fits_is _ _ false _ (by exact Hf.out)).mono ?_; rintro e w' ⟨rfl, hb⟩)
             first
             | exact flat_end rfl S2.out
             | exact flat_end rfl (S2.out.trans (hb.mono S2.out.size))
           · exact rfl)
        refine Flat.nil fun W2 hS => ?_
        have HB2 := Aside0.mk hS
        clear hS
        go_wp2
        go_ret
        exact ⟨bool_of _ _ (right_false hlt (by simp [fineAt, Hf.out])), HB2.out⟩
      · have Hf := Aside0.mk hf
        clear hf
        by_cases h0 : k = 0
        · have hz : decide (0 < (k : Int)) = false := by simp; omega
          have hz2 : decide (0 < k) = false := by simp; omega
          have hz3 : k ≤ 0 := by omega
          have H0 := Aside0.mk h0
          clear HP h0
          refine wp_region_flat (Below w.heap.size w) (by kernel_rfl) (by kernel_rfl) (below_drew HB.out) ?_
          repeat
            (apply Flat.cons
             · intro w' hS
               have S2 := Aside0.mk hS
               have s0 := pw_cell_below hS X0.out
               have s1 := pw_cell_below hS X1.out
               clear hS
               go_wp2_with (go_at_call 43; refine (fits_is _ _ true _ (by exact Hf.out)).mono ?_; rintro e w' ⟨rfl, hb⟩)
               first
               | exact flat_end rfl S2.out
               | exact flat_end rfl (S2.out.trans (hb.mono S2.out.size))
             · exact rfl)
          refine Flat.nil fun W2 hS => ?_
          have HB2 := Aside0.mk hS
          clear hS
          go_wp2
          go_roundw
          case rel => exact ⟨k + 1, by omega, by go_num, ⟨fun i h => by
            have h0 := H0.out
            obtain rfl : i = k := by omega
            have hf := Hf.out
            unfold fineAt
            rw [hf]
            simp [h0]⟩, HB2⟩
          case measure => simp [intOf]; omega
        · have hk0 : 0 < k := by omega
          have hq := HP.out hk0
          clear HP h0
          have hle : (0 : Int) < (k : Int) := by omega
          have hi0 : (0 : Int) ≤ (k : Int) - 1 := by omega
          have hi1 : (k : Int) - 1 < (l.length : Int) := by omega
          cases hl : lessC (rd_T40 l ((k : Int) - 1)) (rd_T40 l k)
          all_goals
            have Hl := Aside0.mk hl
            unfold lessC at hl
            have hg := leq_of hl
            simp only [Bool.not_false, Bool.not_true] at hg
            clear hl
            refine wp_region_flat (Below w.heap.size w) (by kernel_rfl) (by kernel_rfl) (below_drew HB.out) ?_
            repeat
              (apply Flat.cons
               · intro w' hS
                 have S2 := Aside0.mk hS
                 have s0 := pw_cell_below hS X0.out
                 have s1 := pw_cell_below hS X1.out
                 have hq' := pw_cell_below hS hq
                 clear hS
                 go_wp2_with (go_at_call 43; refine (fits_is _ _ true _ (by exact Hf.out)).mono ?_; rintro e w' ⟨rfl, hb⟩)
                 first
                 | exact flat_end rfl S2.out
                 | exact flat_end rfl (S2.out.trans (hb.mono S2.out.size))
                 | (rw [hg]; exact flat_end rfl S2.out)
               · exact rfl)
            refine Flat.nil fun W2 hS => ?_
            have HB2 := Aside0.mk hS
            clear hS hg
            go_wp2
          · go_ret
            exact ⟨bool_of _ _ (right_false hlt (by simp [fineAt, Hl.out, Hf.out]; omega)), HB2.out⟩
          · go_roundw
            case rel => exact ⟨k + 1, by omega, by go_num, ⟨fun i h => by
              rcases Nat.lt_or_ge i k with h1 | h1
              · exact HF.out i h1
              · obtain rfl : i = k := by omega
                simp [fineAt, Hl.out, Hf.out]⟩, HB2⟩
            case measure => simp [intOf]; omega
    · obtain rfl : k = l.length := by omega
      clear hlt
      go_wp2
      go_ret
      exact ⟨bool_of _ _ ((rightB_iff l).2 HF.out), HB.out⟩
end Go.Proofs.Ytcnmefocbjilbaa.G
namespace Go.Proofs.Ytcnmefocbjilbaa.G
open Go.RowKit Go.Proofs.YtcnmefocbjilbaaW.PrintWords Go.Proofs.YtcnmefocbjilbaaW.PrintLast Go.Proofs.YtcnmefocbjilbaaW.PrintMore
open Go.Proofs.YtcnmefocbjilbaaFlat
set_option maxHeartbeats 1000000

/-- What cells.At tells: a place; -1 if the cells are not right. -/
def AtPost (l : List S40) (key : ByteArray) (w : World) (r : Ending) (w' : World) : Prop :=
  ∃ n : Int, r = .returned (.int .i64 n) ∧ (rightB l = false → n = -1) ∧ (rightB l = true → -1 ≤ n ∧ n < l.length ∧ (0 ≤ n → Op.bytesLess key.toList (rd_T40 l n).f0.toList = false) ∧ (n + 1 < l.length → Op.bytesLess key.toList (rd_T40 l (n + 1)).f0.toList = true)) ∧ Below w.heap.size w w'

theorem cell_of_new (w : World) (v : Value) (t : TypeId) : (w.alloc (.cells #[v] t (0, 0))).cell? ⟨w.heap.size, 0, none⟩ = some v := cell_new2 w #[v] t 0 v rfl

theorem At_calls (A : Option Addr) (c : Nat) (l : List S40) (key : ByteArray) (w : World) (HR : Kd.C k40 w A l.length l) (hl : l.length ≤ 4398046511104) :
    Calls Try.prog 50 #[.slice A l.length c, .string key] w (AtPost l key w) := by
  have hmf : ∀ (fn : Fn) (first cap : Array Value) (w : World), (Instr.makeFunc fn first cap).run Try.prog w = .ok (.func fn first cap) w := fun _ _ _ _ => rfl
  have HR0 := Aside0.mk HR
  clear HR
  go_enter Try.func50, Try.ntmps50
  go_wp2_with fail
  refine (cells_Right_calls _ _ _ _ HR0.out).mono ?_
  rintro e w1 ⟨rfl, hb⟩
  have HB := Aside0.mk hb
  clear hb
  cases hr : rightB l
  · have Hr := Aside0.mk hr
    clear hr
    go_wp2
    go_ret
    exact ⟨-1, rfl, fun _ => rfl, fun h => (by rw [Hr.out] at h; cases h), HB.out⟩
  · have Hr := Aside0.mk hr
    clear hr
    go_wp2_with fail
    refine (above_calls _ _ _ _ _).mono ?_
    rintro e w2 ⟨rfl, rfl⟩
    go_wp2_with fail
    have HR1 := Kd.C_alloc (Kd.C_alloc (Kd.C_below HR0.out HB.out) (.cells #[.slice A l.length c] 87 (0, 0))) (.cells #[.string key] 9 (0, 0))
    have hc1 : ((w1.alloc (.cells #[.slice A l.length c] 87 (0, 0))).alloc (.cells #[.string key] 9 (0, 0))).cell? ⟨w1.heap.size, 0, none⟩ = some (.slice A l.length c) :=
      pw_cell_below (below_alloc (Below.refl _ _) _) (cell_of_new _ _ _)
    have hc2 : ((w1.alloc (.cells #[.slice A l.length c] 87 (0, 0))).alloc (.cells #[.string key] 9 (0, 0))).cell? ⟨w1.heap.size + 1, 0, none⟩ = some (.string key) := by
      exact cell_of_new (w1.alloc (.cells #[.slice A l.length c] 87 (0, 0))) (.string key) 9 ▸ by simp
    have HB2 := Aside0.mk (below_alloc (below_alloc HB.out (.cells #[.slice A l.length c] 87 (0, 0))) (.cells #[.string key] 9 (0, 0)))
    have HX := Aside0.mk HR1
    have C1 := Aside0.mk hc1
    have C2 := Aside0.mk hc2
    clear HR1 hc1 hc2
    refine (search_calls A c _ _ l key _ (by exact C1.out) (by exact C2.out) (by exact HX.out) hl).mono ?_
    rintro e w3 ⟨n, rfl, h0, h1, h2, h3, hd⟩
    obtain ⟨m, rfl⟩ := hd
    have H2 := Aside0.mk h2
    have H3 := Aside0.mk h3
    clear h2 h3
    go_wp2
    go_ret
    refine ⟨n - 1, rfl, fun h => (by rw [Hr.out] at h; cases h), fun _ => ⟨by omega, by omega, fun h => H2.out (by omega), fun h => ?_⟩, pw_below_drewN HB2.out m⟩
    rw [Int.sub_add_cancel]
    exact H3.out (by omega)
end Go.Proofs.Ytcnmefocbjilbaa.G
namespace Go.Proofs.Ytcnmefocbjilbaa.G
open Go.RowKit Go.Proofs.YtcnmefocbjilbaaW.PrintWords Go.Proofs.YtcnmefocbjilbaaW.PrintLast Go.Proofs.YtcnmefocbjilbaaW.PrintMore
open Go.Proofs.YtcnmefocbjilbaaFlat
set_option maxHeartbeats 1000000

/-! ### cells in order -/
theorem rd_get (l : List S40) (i : Nat) (h : i < l.length) : rd_T40 l i = l[i] := by
  unfold rd_T40
  simp [List.getD_eq_getElem?_getD, List.getElem?_eq_getElem h]
theorem right_lt {l : List S40} (h : rightB l = true) : ∀ (j i : Nat), i < j → j < l.length → lessC (rd_T40 l i) (rd_T40 l j) = true := by
  intro j
  induction j with
  | zero => intro i hi; omega
  | succ j ih =>
    intro i hi hj
    have h1 := (rightB_iff l).1 h (j + 1) hj
    simp only [fineAt, Bool.and_eq_true, Bool.or_eq_true, decide_eq_true_eq] at h1
    have h2 := h1.2.resolve_left (by omega)
    rw [show (((j + 1 : Nat) : Int) - 1) = (j : Int) by omega] at h2
    rcases Nat.lt_or_ge i j with h3 | h3
    · exact bl_trans (ih i h3 (by omega)) h2
    · obtain rfl : i = j := by omega
      exact h2
def isKey (key : ByteArray) (c : S40) : Bool := c.f0.toList == key.toList
/-- What a key has. -/
def findO (l : List S40) (key : ByteArray) : Option ByteArray := (l.find? (isKey key)).map (·.f1)
theorem find_none {l : List S40} {key : ByteArray} (h : ∀ i : Nat, i < l.length → isKey key (rd_T40 l i) = false) : findO l key = none := by
  unfold findO
  rw [Option.map_eq_none_iff, List.find?_eq_none]
  intro x hx
  obtain ⟨i, hi, rfl⟩ := List.getElem_of_mem hx
  have := h i hi
  rw [rd_get l i hi] at this
  simp [this]
theorem find_some {l : List S40} {key : ByteArray} (hr : rightB l = true) {n : Nat} (hn : n < l.length) (h : isKey key (rd_T40 l n) = true) : findO l key = some (rd_T40 l n).f1 := by
  unfold findO
  have : l.find? (isKey key) = some (rd_T40 l n) := by
    rw [rd_get l n hn, List.find?_eq_some_iff_getElem]
    rw [rd_get l n hn] at h
    refine ⟨h, n, hn, rfl, fun j hj => ?_⟩
    have h1 := right_lt hr n j hj hn
    rw [rd_get l n hn, rd_get l j (by omega)] at h1
    cases hk : isKey key l[j]
    · rfl
    · simp only [isKey, beq_iff_eq] at h hk
      unfold lessC at h1
      rw [h, hk, bl_irrefl] at h1
      cases h1
  rw [this]
  rfl
/-- The place of the last cell that is not above a key, and the cell there. -/
theorem at_find {l : List S40} {key : ByteArray} {n : Int} (hr : rightB l = true) (h0 : -1 ≤ n) (h1 : n < l.length) (h2 : 0 ≤ n → Op.bytesLess key.toList (rd_T40 l n).f0.toList = false) (h3 : n + 1 < l.length → Op.bytesLess key.toList (rd_T40 l (n + 1)).f0.toList = true) :
    (0 ≤ n ∧ isKey key (rd_T40 l n) = true ∧ findO l key = some (rd_T40 l n).f1) ∨ ((0 ≤ n → isKey key (rd_T40 l n) = false) ∧ findO l key = none) := by
  by_cases hk : 0 ≤ n ∧ isKey key (rd_T40 l n) = true
  · obtain ⟨m, rfl⟩ := Int.eq_ofNat_of_zero_le hk.1
    exact .inl ⟨hk.1, hk.2, find_some hr (by omega) hk.2⟩
  · refine .inr ⟨fun h => by cases hb : isKey key (rd_T40 l n) <;> simp_all, find_none fun i hi => ?_⟩
    cases hb : isKey key (rd_T40 l i)
    · rfl
    · exfalso
      simp only [isKey, beq_iff_eq] at hb
      rcases Int.lt_trichotomy (i : Int) n with h | h | h
      · obtain ⟨m, rfl⟩ := Int.eq_ofNat_of_zero_le (show 0 ≤ n by omega)
        have h4 := right_lt hr m i (by omega) (by omega)
        unfold lessC at h4
        have := h2 (by omega)
        rw [← hb, h4] at this
        cases this
      · subst h
        exact hk ⟨by omega, by simp [isKey, hb]⟩
      · have h5 := h3 (by omega)
        rcases Int.lt_or_le (n + 1) i with h6 | h6
        · obtain ⟨m, hm⟩ := Int.eq_ofNat_of_zero_le (show 0 ≤ n + 1 by omega)
          rw [hm] at h5 h6
          have h4 := right_lt hr i m (by omega) hi
          unfold lessC at h4
          have := bl_trans h5 h4
          rw [hb, bl_irrefl] at this
          cases this
        · have he : n + 1 = (i : Int) := by omega
          rw [he, hb, bl_irrefl] at h5
          cases h5

def findV (l : List S40) (key : ByteArray) : Option ByteArray := if rightB l = true then findO l key else none
def FindPost (l : List S40) (key : ByteArray) (w : World) (r : Ending) (w' : World) : Prop :=
  r = .returned (.tuple #[.string ((findV l key).getD ⟨#[]⟩), .bool (findV l key).isSome]) ∧ Below w.heap.size w w'
theorem Find_calls (A : Option Addr) (c : Nat) (l : List S40) (key : ByteArray) (w : World) (HR : Kd.C k40 w A l.length l) (hl : l.length ≤ 4398046511104) :
    Calls Try.prog 28 #[.slice A l.length c, .string key] w (FindPost l key w) := by
  have HR0 := Aside0.mk HR
  clear HR
  go_enter Try.func28, Try.ntmps28
  go_wp2_with fail
  refine (At_calls A c l key _ HR0.out hl).mono ?_
  rintro e w1 ⟨n, rfl, hf, ht, hb⟩
  have HB := Aside0.mk hb
  clear hb
  cases hr : rightB l
  · obtain rfl := hf hr
    clear hf ht
    have Hr := Aside0.mk hr
    clear hr
    go_wp2
    go_ret2
    exact ⟨by simp [findV, Hr.out], HB.out⟩
  · obtain ⟨h0, h1, h2, h3⟩ := ht hr
    have hq := at_find hr h0 h1 h2 h3
    have Hr := Aside0.mk hr
    clear hr hf ht h2 h3
    rcases hq with ⟨g0, g1, g2⟩ | ⟨g1, g2⟩
    · have G2 := Aside0.mk g2
      clear g2
      obtain ⟨ad, rfl, hx0, hx1⟩ := at_T40 HR0.out n g0 h1
      replace hx0 := pw_cell_below HB.out hx0
      replace hx1 := pw_cell_below HB.out hx1
      unfold isKey at g1
      go_wp2
      go_ret2
      exact ⟨by simp [findV, Hr.out, G2.out], HB.out⟩
    · have G2 := Aside0.mk g2
      clear g2
      by_cases g0 : 0 ≤ n
      · obtain ⟨ad, rfl, hx0, hx1⟩ := at_T40 HR0.out n g0 h1
        replace hx0 := pw_cell_below HB.out hx0
        replace hx1 := pw_cell_below HB.out hx1
        replace g1 := g1 g0
        unfold isKey at g1
        go_wp2
        go_ret2
        exact ⟨by simp [findV, Hr.out, G2.out], HB.out⟩
      · clear g1
        go_wp2
        go_ret2
        exact ⟨by simp [findV, Hr.out, G2.out], HB.out⟩
end Go.Proofs.Ytcnmefocbjilbaa.G
namespace Go.Proofs.Ytcnmefocbjilbaa.G
open Go.RowKit Go.Proofs.YtcnmefocbjilbaaW.PrintWords Go.Proofs.YtcnmefocbjilbaaW.PrintLast Go.Proofs.YtcnmefocbjilbaaW.PrintMore
open Go.Proofs.YtcnmefocbjilbaaFlat
set_option maxHeartbeats 1000000

/-! ### ranges -/
def rangeB (f t : ByteArray) (e : Bool) : Bool := decide (f.size ≤ 513) && decide (t.size ≤ 513) && (if e = true then Op.bytesLess f.toList t.toList else t.toList.isEmpty)
def inB (f t : ByteArray) (e : Bool) (key : ByteArray) : Bool := !Op.bytesLess key.toList f.toList && !(e && !Op.bytesLess key.toList t.toList)
def hasB (f t : ByteArray) (e : Bool) (key : ByteArray) : Bool := rangeB f t e && inB f t e key

theorem spanRight_calls (f t : ByteArray) (e : Bool) (w : World) : Calls Try.prog 36 #[.agg #[.string f, .string t, .bool e]] w fun r w' => r = .returned (.bool (rangeB f t e)) ∧ Below w.heap.size w w' := by
  unfold rangeB
  cases e
  all_goals by_cases h1 : f.size ≤ 513
  all_goals by_cases h2 : t.size ≤ 513
  all_goals first
    | (cases h3 : t.toList.isEmpty
       all_goals
        go_enter Try.func36, Try.ntmps36
        go_wp2
        go_ret
        exact ⟨by first | (simp [h1, h2, h3]; done) | (simp [h1, h2, h3]; omega), (Below.refl _ _).alloc (Nat.le_refl _) _⟩)
    | (cases h3 : Op.bytesLess f.toList t.toList
       all_goals
        go_enter Try.func36, Try.ntmps36
        go_wp2
        go_ret
        exact ⟨by first | (simp [h1, h2, h3]; done) | (simp [h1, h2, h3]; omega), (Below.refl _ _).alloc (Nat.le_refl _) _⟩)
theorem over_calls (f t : ByteArray) (e : Bool) (key : ByteArray) (w : World) : Calls Try.prog 74 #[.agg #[.string f, .string t, .bool e], .string key] w fun r w' => r = .returned (.bool (e && !Op.bytesLess key.toList t.toList)) ∧ Below w.heap.size w w' := by
  cases e
  all_goals
    go_enter Try.func74, Try.ntmps74
    go_wp2
    go_ret
    exact ⟨by simp, (Below.refl _ _).alloc (Nat.le_refl _) _⟩
theorem in_calls (f t : ByteArray) (e : Bool) (key : ByteArray) (w : World) : Calls Try.prog 61 #[.agg #[.string f, .string t, .bool e], .string key] w fun r w' => r = .returned (.bool (inB f t e key)) ∧ Below w.heap.size w w' := by
  unfold inB
  cases h : Op.bytesLess key.toList f.toList
  all_goals
    go_enter Try.func61, Try.ntmps61
    go_wp2_with fail
  · have h' := Aside0.mk h
    clear h
    refine (over_calls f t e key _).mono ?_
    rintro r w1 ⟨rfl, hb⟩
    go_wp2
    go_ret
    exact ⟨by simp, ((Below.refl _ _).alloc (Nat.le_refl _) _).trans (hb.mono (by simp))⟩
  · go_ret
    exact ⟨by simp, (Below.refl _ _).alloc (Nat.le_refl _) _⟩
theorem Has_calls (f t : ByteArray) (e : Bool) (key : ByteArray) (w : World) : Calls Try.prog 54 #[.agg #[.string f, .string t, .bool e], .string key] w fun r w' => r = .returned (.bool (hasB f t e key)) ∧ Below w.heap.size w w' := by
  unfold hasB
  go_enter Try.func54, Try.ntmps54
  go_wp2_with fail
  refine (spanRight_calls f t e _).mono ?_
  rintro r w1 ⟨rfl, hb⟩
  have HB := Aside0.mk (((Below.refl w.heap.size w).alloc (Nat.le_refl _) (.cells #[.string f, .string t, .bool e] 24 (0, 0))).trans (hb.mono (by simp)))
  have c0 := pw_cell_below hb (cell_new2 w #[.string f, .string t, .bool e] 24 0 _ rfl)
  have c1 := pw_cell_below hb (cell_new2 w #[.string f, .string t, .bool e] 24 1 _ rfl)
  have c2 := pw_cell_below hb (cell_new2 w #[.string f, .string t, .bool e] 24 2 _ rfl)
  have hsz : w.heap.size < w1.heap.size := by have := hb.size; simp at this; omega
  clear hb
  cases h : rangeB f t e
  · go_wp2
    go_ret
    exact ⟨by simp [h], HB.out⟩
  · go_wp2_with fail
    refine (in_calls f t e key _).mono ?_
    rintro r w2 ⟨rfl, hb⟩
    go_wp2
    go_ret
    exact ⟨by simp [h], HB.out.trans (hb.mono (by have := HB.out.size; omega))⟩
end Go.Proofs.Ytcnmefocbjilbaa.G
namespace Go.Proofs.Ytcnmefocbjilbaa.G
open Go.RowKit Go.Proofs.YtcnmefocbjilbaaW.PrintWords Go.Proofs.YtcnmefocbjilbaaW.PrintLast Go.Proofs.YtcnmefocbjilbaaW.PrintMore
open Go.Proofs.YtcnmefocbjilbaaFlat
set_option maxHeartbeats 1000000

abbrev Own (w : World) (base : Nat) (v : Value) (xs : List S40) : Prop := Kd.R k40 40 w base (fun _ => True) v xs
section
variable {ops : Array Oper} {rest : List Oper} {o : Oper} {a : Act} {Q : Exit → Act → World → Prop}
/-- append of one cell, behind at_builtin -/
theorem app1 {w0 W : World} (base : Nat) (hgd : o.guard = none) (s x : Operand) (ho : o.op = .call { callee := .builtin .append, args := #[s, x], argTypes := #[22, 22] })
    (v : Value) (xs : List S40) (p q : ByteArray) (hs : a.eval s = v) (hx : a.eval x = .slice (some ⟨W.heap.size, 0, none⟩) 1 1) (HO : Own W base v xs) (HB : Below base w0 W) (hbase : base ≤ W.heap.size) (hl : xs.length < 4398046511103)
    (h : ∀ v1 w1, Own w1 base v1 (xs ++ [⟨p, q⟩]) → Below base w0 w1 → base ≤ w1.heap.size → wpList Try.prog ops Q rest (a.put o.dst v1) w1) :
    wpList Try.prog ops Q (o :: rest) a (W.alloc (.cells #[.string p, .string q] 40 (0, 0))) := by
  refine Kd.R_append k40 (w0 := w0) base hgd s x 22 40 (.agg #[(.string ⟨#[]⟩), (.string ⟨#[]⟩)]) 32 ho Try.underlying22 info40 rfl (by decide) (by omega) v xs (⟨p, q⟩ : S40) [.string p, .string q] (fun _ => True) (fun _ => False) hs hx (k40_mkM _ _ _ (⟨p, q⟩ : S40)) (fun _ hk => hk.elim) (fun _ _ => trivial) HO HB hbase (by omega) ?_
  intro v1 w1 h1 h2 h3 h4
  exact h v1 w1 h1 h2 (Nat.le_trans hbase h3.size)
/-- append of a row of cells that is read -/
theorem appAll {w0 W : World} (base : Nat) (hgd : o.guard = none) (s x : Operand) (ho : o.op = .call { callee := .builtin .append, args := #[s, x], argTypes := #[22, 22] })
    (v : Value) (xs ys : List S40) (A : Option Addr) (c : Nat) (hs : a.eval s = v) (hx : a.eval x = .slice A ys.length c) (HO : Own W base v xs) (HR : Kd.C k40 W A ys.length ys) (HB : Below base w0 W) (hbase : base ≤ W.heap.size) (hl : xs.length + ys.length < 4398046511104)
    (h : ∀ v1 w1, Own w1 base v1 (xs ++ ys) → Below base w0 w1 → base ≤ w1.heap.size → wpList Try.prog ops Q rest (a.put o.dst v1) w1) :
    wpList Try.prog ops Q (o :: rest) a W := by
  refine Kd.R_append_rows k40 (w0 := w0) base hgd s x 22 40 (.agg #[(.string ⟨#[]⟩), (.string ⟨#[]⟩)]) 32 ho Try.underlying22 info40 rfl (by decide) (by omega) v xs ys A ys.length c (fun _ => True) (fun _ => False) hs hx HO HR (fun _ _ h => h) (fun _ h => h.elim) (fun _ _ => trivial) HB hbase (by omega) ?_
  intro v1 w1 h1 h2 h3 h4
  exact h v1 w1 h1 h2 (Nat.le_trans hbase h3.size)
end

def KeptPost (l : List S40) (so : S40 → Bool) (w : World) (r : Ending) (w' : World) : Prop :=
  ∃ v : Value, r = .returned v ∧ Own w' w.heap.size v (l.filter so) ∧ Below w.heap.size w w'
/-- What a predicate's closure does. -/
def SoCalls (f : FuncId) (g : Nat) (so : S40 → Bool) (w : World) : Prop :=
  ∀ (p q : ByteArray) (W : World), Below w.heap.size w W → Calls Try.prog f #[.agg #[.string p, .string q], .pointer (some ⟨g, 0, none⟩)] W fun r w' => r = .returned (.bool (so ⟨p, q⟩)) ∧ Below W.heap.size W w'
theorem take_snoc40 (l : List S40) (k : Nat) (h : k < l.length) : l.take (k + 1) = l.take k ++ [rd_T40 l k] := by
  rw [List.take_succ_eq_append_getElem h, rd_get l k h]
set_option maxRecDepth 100000 in
theorem kept_calls (A : Option Addr) (c : Nat) (l : List S40) (f : FuncId) (g : Nat) (so : S40 → Bool) (w : World) (HR : Kd.C k40 w A l.length l) (hl : l.length < 4398046511103) (hso : SoCalls f g so w) (hcf : ∀ (args : Array Value) (w : World), (callFunc f args).run Try.prog w = .ok (.enter f args) w) :
    Calls Try.prog 51 #[.slice A l.length c, .func (.func f) #[] #[.pointer (some ⟨g, 0, none⟩)]] w (KeptPost l so w) := by
  have HR0 := Aside0.mk HR
  have HS := Aside0.mk hso
  clear HR hso
  go_enter Try.func51, Try.ntmps51
  go_wp2
  go_loopw [5, 10] (fun v5 v10 w' => ∃ k : Nat, k ≤ l.length ∧ v10 = .int .i64 k ∧ Aside0 (Own w' w.heap.size v5 ((l.take k).filter so)) ∧ Aside0 (Below w.heap.size w w')) (fun _ v10 _ => l.length - (intOf v10).toNat)
  case atStart => exact ⟨0, by omega, rfl, ⟨by simpa using Kd.R_nil k40 40 w w.heap.size (fun _ => True)⟩, ⟨Below.refl _ _⟩⟩
  case round =>
    obtain ⟨k, hk, rfl, HO, HB⟩ := hrel
    by_cases hlt : k < l.length
    · obtain ⟨ad, rfl, hx0, hx1⟩ := at_T40 HR0.out k (by omega) (by omega)
      replace hx0 := pw_cell_below HB.out hx0
      replace hx1 := pw_cell_below HB.out hx1
      simp only [Int.toNat_natCast] at hx0 hx1
      have hsn := take_snoc40 l k hlt
      have HSN := Aside0.mk hsn
      clear hsn
      go_wp2_with fail
      have HB1 := Aside0.mk (below_alloc2 HB.out (Obj.cells #[.string (rd_T40 l k).f0, .string (rd_T40 l k).f1] 40 (0, 0)))
      refine (HS.out (rd_T40 l k).f0 (rd_T40 l k).f1 _ HB1.out).mono ?_
      rintro e w2 ⟨rfl, hb⟩
      have HB2 := Aside0.mk (HB1.out.trans (hb.mono HB1.out.size))
      have HB3 := Aside0.mk hb
      have HO2 := Aside0.mk (Kd.R_below (Kd.R_alloc HO.out (Obj.cells #[.string (rd_T40 l k).f0, .string (rd_T40 l k).f1] 40 (0, 0))) hb)
      have c0 := pw_cell_below hb (cell_new2 wr #[.string (rd_T40 l k).f0, .string (rd_T40 l k).f1] 40 0 _ rfl)
      have c1 := pw_cell_below hb (cell_new2 wr #[.string (rd_T40 l k).f0, .string (rd_T40 l k).f1] 40 1 _ rfl)
      clear hb HB1
      generalize wr.heap.size = g1 at c0 c1 HB3 ⊢
      cases hs : so ⟨(rd_T40 l k).f0, (rd_T40 l k).f1⟩
      · have Hs := Aside0.mk hs
        clear hs
        go_wp2
        go_roundw
        case rel => exact ⟨k + 1, by omega, by go_num, ⟨by
          rw [HSN.out, List.filter_append, List.filter_cons_of_neg (by rw [show so (rd_T40 l k) = false from Hs.out]; simp), List.filter_nil, List.append_nil]
          exact HO2.out⟩, HB2⟩
        case measure => simp [intOf]; omega
      · have Hs := Aside0.mk hs
        clear hs
        have hf : ((l.take k).filter so).length < 4398046511103 := by
          have h1 := List.length_filter_le so (l.take k)
          have h2 := List.length_take_le k l
          omega
        have HF := Aside0.mk hf
        clear hf
        go_wp2_with (at_builtin; go_must (refine app1 (w0 := w) w.heap.size rfl (.tmp 17) (.tmp 19) rfl u5 ((l.take k).filter so) (rd_T40 l k).f0 (rd_T40 l k).f1 rfl rfl HO2.out HB2.out HB2.out.size HF.out ?_); intro v1 w3 h1 h2 h3)
        go_roundw
        case rel => exact ⟨k + 1, by omega, by go_num, ⟨by
          rw [HSN.out, List.filter_append, List.filter_cons_of_pos (by exact Hs.out), List.filter_nil]
          exact h1⟩, ⟨h2⟩⟩
        case measure => simp [intOf]; omega
    · obtain rfl : k = l.length := by omega
      clear hlt
      go_wp2
      go_ret
      exact ⟨_, rfl, by rw [← List.take_length (l := l)]; simpa using HO.out, HB.out⟩

theorem delete1_calls (p q key : ByteArray) (g : Nat) (w : World) (hc : w.cell? ⟨g, 0, none⟩ = some (.string key)) :
    Calls Try.prog 52 #[.agg #[.string p, .string q], .pointer (some ⟨g, 0, none⟩)] w fun r w' => r = .returned (.bool (!isKey key ⟨p, q⟩)) ∧ Below w.heap.size w w' := by
  have hlt := World.block_lt_of_cell? w _ hc
  have hne : ¬ g = w.heap.size := by have : g < w.heap.size := hlt; omega
  unfold isKey
  go_enter Try.func52, Try.ntmps52
  go_wp2
  go_ret
  exact ⟨by simp [bne], (Below.refl _ _).alloc (Nat.le_refl _) _⟩
theorem callFunc52 (args : Array Value) (w : World) : (callFunc 52 args).run Try.prog w = .ok (.enter 52 args) w := by kernel_rfl
theorem callFunc53 (args : Array Value) (w : World) : (callFunc 53 args).run Try.prog w = .ok (.enter 53 args) w := by kernel_rfl

def DeletePost (l : List S40) (key : ByteArray) (w : World) (r : Ending) (w' : World) : Prop :=
  ∃ v : Value, r = .returned (.tuple #[v, .int .i64 (if rightB l = true then 0 else 100)]) ∧ Own w' w.heap.size v (if rightB l = true then l.filter (fun x => !isKey key x) else []) ∧ Below w.heap.size w w'
theorem Delete_calls (A : Option Addr) (c : Nat) (l : List S40) (key : ByteArray) (w : World) (HR : Kd.C k40 w A l.length l) (hl : l.length < 4398046511103) :
    Calls Try.prog 34 #[.slice A l.length c, .string key] w (DeletePost l key w) := by
  have hmf : ∀ (fn : Fn) (first cap : Array Value) (w : World), (Instr.makeFunc fn first cap).run Try.prog w = .ok (.func fn first cap) w := fun _ _ _ _ => rfl
  have HR0 := Aside0.mk HR
  clear HR
  go_enter Try.func34, Try.ntmps34
  go_wp2_with fail
  have HC := Aside0.mk (cell_of_new w (.string key) 9)
  have HB0 := Aside0.mk (below_alloc (Below.refl w.heap.size w) (.cells #[.string key] 9 (0, 0)))
  refine (cells_Right_calls _ _ _ _ (by exact Kd.C_below HR0.out HB0.out)).mono ?_
  rintro e w1 ⟨rfl, hb⟩
  have HB := Aside0.mk (HB0.out.trans (hb.mono HB0.out.size))
  have HC1 := Aside0.mk (pw_cell_below hb HC.out)
  clear hb HC HB0
  cases hr : rightB l
  · have Hr := Aside0.mk hr
    clear hr
    go_wp2
    go_ret2
    exact ⟨.slice none 0 0, by simp [Hr.out], by simpa [Hr.out] using Kd.R_nil k40 40 w1 w.heap.size (fun _ => True), HB.out⟩
  · have Hr := Aside0.mk hr
    clear hr
    go_wp2_with fail
    refine (kept_calls A c l 52 w.heap.size (fun x => !isKey key x) w1 (Kd.C_below HR0.out HB.out) hl (fun p q W hW => delete1_calls p q key _ W (pw_cell_below hW HC1.out)) callFunc52).mono ?_
    rintro e w2 ⟨v, rfl, ho, hb⟩
    have HO := Aside0.mk (Kd.R_lower ho HB.out.size)
    have HB2 := Aside0.mk (HB.out.trans (hb.mono HB.out.size))
    clear ho hb
    go_wp2
    go_ret2
    exact ⟨v, by simp [Hr.out], by simpa [Hr.out] using HO.out, HB2.out⟩

theorem part1_calls (p q f t : ByteArray) (e : Bool) (g : Nat) (w : World) (hc0 : w.cell? ⟨g, 0, none⟩ = some (.string f)) (hc1 : w.cell? ⟨g, 1, none⟩ = some (.string t)) (hc2 : w.cell? ⟨g, 2, none⟩ = some (.bool e)) :
    Calls Try.prog 53 #[.agg #[.string p, .string q], .pointer (some ⟨g, 0, none⟩)] w fun r w' => r = .returned (.bool (hasB f t e p)) ∧ Below w.heap.size w w' := by
  have hlt := World.block_lt_of_cell? w _ hc0
  have hne : ¬ g = w.heap.size := by have : g < w.heap.size := hlt; omega
  go_enter Try.func53, Try.ntmps53
  go_wp2_with fail
  refine (Has_calls f t e p _).mono ?_
  rintro r w1 ⟨rfl, hb⟩
  go_wp2
  go_ret
  exact ⟨by simp, ((Below.refl _ _).alloc (Nat.le_refl _) _).trans (hb.mono (by simp))⟩
def PartPost (l : List S40) (f t : ByteArray) (en : Bool) (w : World) (r : Ending) (w' : World) : Prop :=
  ∃ v : Value, r = .returned v ∧ Own w' w.heap.size v (if rightB l = true then l.filter (fun x => hasB f t en x.f0) else []) ∧ Below w.heap.size w w'
theorem Part_calls (A : Option Addr) (c : Nat) (l : List S40) (f t : ByteArray) (en : Bool) (w : World) (HR : Kd.C k40 w A l.length l) (hl : l.length < 4398046511103) :
    Calls Try.prog 37 #[.slice A l.length c, .agg #[.string f, .string t, .bool en]] w (PartPost l f t en w) := by
  have hmf : ∀ (fn : Fn) (first cap : Array Value) (w : World), (Instr.makeFunc fn first cap).run Try.prog w = .ok (.func fn first cap) w := fun _ _ _ _ => rfl
  have HR0 := Aside0.mk HR
  clear HR
  go_enter Try.func37, Try.ntmps37
  go_wp2_with fail
  have HC0 := Aside0.mk (cell_new2 w #[.string f, .string t, .bool en] 24 0 _ rfl)
  have HC1 := Aside0.mk (cell_new2 w #[.string f, .string t, .bool en] 24 1 _ rfl)
  have HC2 := Aside0.mk (cell_new2 w #[.string f, .string t, .bool en] 24 2 _ rfl)
  have HB0 := Aside0.mk (below_alloc (Below.refl w.heap.size w) (.cells #[.string f, .string t, .bool en] 24 (0, 0)))
  refine (cells_Right_calls _ _ _ _ (by exact Kd.C_below HR0.out HB0.out)).mono ?_
  rintro e w1 ⟨rfl, hb⟩
  have HB := Aside0.mk (HB0.out.trans (hb.mono HB0.out.size))
  have D0 := Aside0.mk (pw_cell_below hb HC0.out)
  have D1 := Aside0.mk (pw_cell_below hb HC1.out)
  have D2 := Aside0.mk (pw_cell_below hb HC2.out)
  clear hb HC0 HC1 HC2 HB0
  cases hr : rightB l
  · have Hr := Aside0.mk hr
    clear hr
    go_wp2
    go_ret
    exact ⟨.slice none 0 0, rfl, by simpa [Hr.out] using Kd.R_nil k40 40 w1 w.heap.size (fun _ => True), HB.out⟩
  · have Hr := Aside0.mk hr
    clear hr
    go_wp2_with fail
    refine (kept_calls A c l 53 w.heap.size (fun x => hasB f t en x.f0) w1 (Kd.C_below HR0.out HB.out) hl (fun p q W hW => part1_calls p q f t en _ W (pw_cell_below hW D0.out) (pw_cell_below hW D1.out) (pw_cell_below hW D2.out)) callFunc53).mono ?_
    rintro e w2 ⟨v, rfl, ho, hb⟩
    have HO := Aside0.mk (Kd.R_lower ho HB.out.size)
    have HB2 := Aside0.mk (HB.out.trans (hb.mono HB.out.size))
    clear ho hb
    go_wp2
    go_ret
    exact ⟨v, rfl, by simpa [Hr.out] using HO.out, HB2.out⟩

def ClonePost (l : List S40) (w : World) (r : Ending) (w' : World) : Prop := ∃ v : Value, r = .returned v ∧ Own w' w.heap.size v l ∧ Below w.heap.size w w'
end Go.Proofs.Ytcnmefocbjilbaa.G
namespace Go.Proofs.Ytcnmefocbjilbaa.G
open Go.RowKit Go.Proofs.YtcnmefocbjilbaaW.PrintWords Go.Proofs.YtcnmefocbjilbaaW.PrintLast Go.Proofs.YtcnmefocbjilbaaW.PrintMore
open Go.Proofs.YtcnmefocbjilbaaFlat
set_option maxHeartbeats 1000000

theorem own_empty (W : World) (base : Nat) (hb : base ≤ W.heap.size) : Own (W.alloc (.cells #[] 40 (0, 0))) base (.slice (some ⟨W.heap.size, 0, none⟩) 0 0) [] := by
  refine ⟨fun _ _ => trivial, [], ?_, Reps.none _ _⟩
  exact World.ownsRow_lit (base := base) (e := 40) (size := k40.sz) W #[] 0 hb (by simp [maxLen]) (by simp)
set_option maxRecDepth 100000 in
theorem Clone_calls (A : Option Addr) (c : Nat) (l : List S40) (w : World) (HR : Kd.C k40 w A l.length l) (hl : l.length < 4398046511103) :
    Calls Try.prog 47 #[.slice A l.length c] w (ClonePost l w) := by
  have HR0 := Aside0.mk HR
  have HL := Aside0.mk hl
  clear HR hl
  cases A with
  | none =>
    have h0 : l = [] := by
      rcases Nat.eq_zero_or_pos l.length with h | h
      · exact List.length_eq_zero_iff.1 h
      · obtain ⟨ad, h, _⟩ := HR0.out.2.2 h
        cases h
    have H0 := Aside0.mk h0
    clear h0
    have hnil := fun (w : World) => Lib.run_eql_slice_nil (P := Try.prog) w 22 40 none l.length c 0 0 Try.underlying22
    go_enter Try.func47, Try.ntmps47
    go_wp2
    go_ret
    exact ⟨_, rfl, by rw [H0.out]; exact Kd.R_nil k40 40 w w.heap.size (fun _ => True), Below.refl _ _⟩
  | some ad =>
    have hnil := fun (w : World) => Lib.run_eql_slice_nil (P := Try.prog) w 22 40 (some ad) l.length c 0 0 Try.underlying22
    go_enter Try.func47, Try.ntmps47
    have HO := Aside0.mk (own_empty w w.heap.size (Nat.le_refl _))
    have HB := Aside0.mk (below_alloc (Below.refl w.heap.size w) (.cells #[] 40 (0, 0)))
    have HR1 := Aside0.mk (Kd.C_alloc HR0.out (.cells #[] 40 (0, 0)))
    go_wp2_with (at_builtin; go_must (refine appAll (w0 := w) w.heap.size rfl (.tmp 5) (.tmp 6) rfl (.slice (some ⟨w.heap.size, 0, none⟩) 0 0) [] l (some ad) c rfl rfl HO.out HR1.out HB.out HB.out.size (by have := HL.out; simp; omega) ?_); intro v1 w3 h1 h2 h3)
    go_ret
    exact ⟨v1, rfl, h1, h2⟩
end Go.Proofs.Ytcnmefocbjilbaa.G
namespace Go.Proofs.Ytcnmefocbjilbaa.G
open Go.RowKit Go.Proofs.YtcnmefocbjilbaaW.PrintWords Go.Proofs.YtcnmefocbjilbaaW.PrintLast Go.Proofs.YtcnmefocbjilbaaW.PrintMore
open Go.Proofs.YtcnmefocbjilbaaFlat
set_option maxHeartbeats 1000000

/-- A cell put among others. -/
def putS (l : List S40) (c : S40) : List S40 := l.filter (fun x => lessC x c) ++ [c] ++ l.filter (fun x => lessC c x)
theorem filter_take (l : List S40) (p : S40 → Bool) (m : Nat) (hm : m ≤ l.length) (h1 : ∀ i : Nat, i < m → p (rd_T40 l i) = true) (h2 : ∀ i : Nat, m ≤ i → i < l.length → p (rd_T40 l i) = false) : l.filter p = l.take m := by
  conv => lhs; rw [← List.take_append_drop m l]
  rw [List.filter_append]
  have e1 : (l.take m).filter p = l.take m := List.filter_eq_self.2 fun x hx => by
    obtain ⟨i, hi, rfl⟩ := List.getElem_of_mem hx
    rw [List.length_take] at hi
    have := h1 i (by omega)
    rw [rd_get l i (by omega)] at this
    simpa using this
  have e2 : (l.drop m).filter p = [] := List.filter_eq_nil_iff.2 fun x hx => by
    obtain ⟨i, hi, rfl⟩ := List.getElem_of_mem hx
    rw [List.length_drop] at hi
    have := h2 (m + i) (by omega) (by omega)
    rw [rd_get l (m + i) (by omega)] at this
    simpa using this
  rw [e1, e2, List.append_nil]
theorem filter_drop (l : List S40) (p : S40 → Bool) (m : Nat) (hm : m ≤ l.length) (h1 : ∀ i : Nat, i < m → p (rd_T40 l i) = false) (h2 : ∀ i : Nat, m ≤ i → i < l.length → p (rd_T40 l i) = true) : l.filter p = l.drop m := by
  conv => lhs; rw [← List.take_append_drop m l]
  rw [List.filter_append]
  have e2 : (l.drop m).filter p = l.drop m := List.filter_eq_self.2 fun x hx => by
    obtain ⟨i, hi, rfl⟩ := List.getElem_of_mem hx
    rw [List.length_drop] at hi
    have := h2 (m + i) (by omega) (by omega)
    rw [rd_get l (m + i) (by omega)] at this
    simpa using this
  have e1 : (l.take m).filter p = [] := List.filter_eq_nil_iff.2 fun x hx => by
    obtain ⟨i, hi, rfl⟩ := List.getElem_of_mem hx
    rw [List.length_take] at hi
    have := h1 i (by omega)
    rw [rd_get l i (by omega)] at this
    simpa using this
  rw [e1, e2, List.nil_append]
/-- The key is there: the cell takes its place. -/
theorem put_found {l : List S40} {c : S40} {n : Nat} (hr : rightB l = true) (hn : n < l.length) (hk : isKey c.f0 (rd_T40 l n) = true) : l.set n c = putS l c := by
  simp only [isKey, beq_iff_eq] at hk
  unfold putS
  rw [filter_take l _ n (by omega) (fun i hi => by
      have := right_lt hr n i hi hn
      unfold lessC at this ⊢
      rw [← hk]; exact this) (fun i hi hl => by
      rcases Nat.lt_or_ge n i with h | h
      · have := right_lt hr i n h hl
        unfold lessC at this ⊢
        rw [← hk]; exact bl_asymm this
      · obtain rfl : i = n := by omega
        unfold lessC
        rw [hk]; exact bl_irrefl _),
    filter_drop l _ (n + 1) (by omega) (fun i hi => by
      rcases Nat.lt_or_ge i n with h | h
      · have := right_lt hr n i h hn
        unfold lessC at this ⊢
        rw [← hk]; exact bl_asymm this
      · obtain rfl : i = n := by omega
        unfold lessC
        rw [hk]; exact bl_irrefl _) (fun i hi hl => by
      have := right_lt hr i n (by omega) hl
      unfold lessC at this ⊢
      rw [← hk]; exact this)]
  rw [List.set_eq_take_append_cons_drop, if_pos hn, List.append_assoc]
  rfl
/-- It isn't: it stands behind the place that At tells. -/
theorem put_new {l : List S40} {c : S40} {m : Nat} (hr : rightB l = true) (hm : m ≤ l.length) (h0 : 0 < m → Op.bytesLess c.f0.toList (rd_T40 l ((m - 1 : Nat) : Int)).f0.toList = false) (h1 : m < l.length → Op.bytesLess c.f0.toList (rd_T40 l m).f0.toList = true)
    (hk : 0 < m → isKey c.f0 (rd_T40 l ((m - 1 : Nat) : Int)) = false) : l.take m ++ [c] ++ l.drop m = putS l c := by
  have low : ∀ i : Nat, i < m → lessC (rd_T40 l i) c = true := fun i hi => by
    have hlast : lessC (rd_T40 l ((m - 1 : Nat) : Int)) c = true := by
      unfold lessC
      cases h : Op.bytesLess (rd_T40 l ((m - 1 : Nat) : Int)).f0.toList c.f0.toList
      · have := bl_tri h (h0 (by omega))
        have h2 := hk (by omega)
        simp [isKey, this] at h2
      · rfl
    rcases Nat.lt_or_ge i (m - 1) with h | h
    · exact bl_trans (right_lt hr (m - 1) i h (by omega)) hlast
    · obtain rfl : i = m - 1 := by omega
      exact hlast
  have high : ∀ i : Nat, m ≤ i → i < l.length → lessC c (rd_T40 l i) = true := fun i hi hl => by
    have hfirst : lessC c (rd_T40 l m) = true := h1 (by omega)
    rcases Nat.lt_or_ge m i with h | h
    · exact bl_trans hfirst (right_lt hr i m h hl)
    · obtain rfl : i = m := by omega
      exact hfirst
  unfold putS
  rw [filter_take l _ m hm low (fun i hi hl => bl_asymm (high i hi hl)), filter_drop l _ m hm (fun i hi => bl_asymm (low i hi)) high]

theorem set40 {W : World} {base g cap : Nat} {xs : List S40} (h : Own W base (.slice (some ⟨g, 0, none⟩) xs.length cap) xs) (i : Nat) (hi : i < xs.length) (p q : ByteArray) :
    Own ((W.setCell ⟨g, i * 2, none⟩ (.string p)).setCell ⟨g, i * 2 + 1, none⟩ (.string q)) base (.slice (some ⟨g, 0, none⟩) xs.length cap) (xs.set i ⟨p, q⟩) ∧ W.grownBy ((W.setCell ⟨g, i * 2, none⟩ (.string p)).setCell ⟨g, i * 2 + 1, none⟩ (.string q)) (some g) ∧
    (∃ u, W.cell? ⟨g, i * 2, none⟩ = some u) ∧ (∃ u, W.cell? ⟨g, i * 2 + 1, none⟩ = some u) ∧ W.frozen? ⟨g, i * 2, none⟩ = false ∧ W.frozen? ⟨g, i * 2 + 1, none⟩ = false := by
  obtain ⟨c, hc1, hc2, hc3, hc4⟩ := Kd.R_elem h z40 (i : Int) (by omega) (by omega)
  obtain rfl := k40_openM hc2
  have hs := Kd.R_seg h (i : Int) (by omega) (by omega) (seg := [.string p, .string q]) (j := 0) hc1 hc3 (show 2 ≤ 2 by decide) (x' := ⟨p, q⟩) (okp := fun _ => False) (k40_mkM _ _ _ (⟨p, q⟩ : S40)) (fun _ hk => hk.elim)
  have e0 := hc3 0 _ rfl
  have e1 := hc3 1 _ rfl
  have f0 := hc4 0
  have f1 := hc4 1
  simp only [Int.toNat_natCast, show k40.sz = 2 from rfl, Nat.add_zero] at hs e0 e1 f0 f1
  exact ⟨hs.1, hs.2, ⟨_, e0⟩, ⟨_, e1⟩, f0, f1⟩

/-! ### cuts, and an append to a row that came in and is full -/
theorem cut3 (A : Option Addr) (n c : Nat) (j : Int) (h0 : 0 ≤ j) (hj : j ≤ c) (W : World) : (Instr.slice 22 (.slice A n c) none (some (.int .i64 j)) (some (.int .i64 j))).run Try.prog W = .ok (.slice A j.toNat j.toNat) W := by
  have hel : Try.prog.elem 22 = 40 := by simp [Program.elem, Try.underlying22]
  have hu : Try.prog.underlying 22 = some (.slice (Try.prog.elem 22)) := by rw [hel]; exact Try.underlying22
  obtain ⟨i0, hi, hz0, hz1, hz2⟩ := info_parts info40
  have hs : (sizeOf 40).run Try.prog W = .ok 2 W := by simp [sizeOf, typeInfo, hi]; exact hz1
  rw [run_slice_hm W 22 A n c hu .i64 .i64 j j h0 (Int.le_refl _) hj, hel, hs]
  simp only [Result.andThen, sliced, Nat.sub_zero, Nat.zero_mul]
  cases A with
  | none => simp
  | some ad => simp [Addr.add]
theorem cutL (A : Option Addr) (n c : Nat) (j : Int) (h0 : 0 ≤ j) (hj : j ≤ n) (W : World) : (Instr.slice 22 (.slice A n c) (some (.int .i64 j)) none none).run Try.prog W = .ok (.slice (if c = j.toNat then A else A.map (·.add (j.toNat * 2))) (n - j.toNat) (c - j.toNat)) W := by
  obtain ⟨i0, hi, hz0, hz1, hz2⟩ := info_parts info40
  exact cut_from 22 40 .i64 Try.underlying22 hi 2 hz1 A n c j h0 hj W
def flat40 (xs : List S40) : List Value := xs.flatMap fun x => [.string x.f0, .string x.f1]
theorem flat40_length (xs : List S40) : (flat40 xs).length = xs.length * 2 := by
  induction xs with
  | nil => rfl
  | cons x xs ih => simp only [flat40, List.flatMap_cons, List.length_append, List.length_cons, List.length_nil] at ih ⊢; omega
theorem flat40_append (xs ys : List S40) : flat40 (xs ++ ys) = flat40 xs ++ flat40 ys := by simp [flat40]
theorem flat40_at (xs : List S40) (i : Nat) (x : S40) (h : xs[i]? = some x) : ((flat40 xs).drop (i * 2)).take 2 = [.string x.f0, .string x.f1] := by
  induction xs generalizing i with
  | nil => simp at h
  | cons y ys ih =>
    cases i with
    | zero =>
      obtain rfl : y = x := by simpa using h
      simp [flat40]
    | succ i =>
      have := ih i (by simpa using h)
      rw [show (i + 1) * 2 = i * 2 + 2 by omega]
      simpa [flat40] using this
theorem flat40_reps (w : World) (base : Nat) (ok : Nat → Prop) (xs : List S40) : Reps (k40.M w base ok) 2 xs (flat40 xs) :=
  ⟨flat40_length xs, fun i x h => by rw [flat40_at xs i x h]; exact k40_mkM _ _ _ x⟩
theorem C_flat {w : World} {A : Option Addr} {n : Nat} {xs : List S40} (h : Kd.C k40 w A n xs) (b : Addr) (hb : A = some b) : ∀ (j : Nat) u, (flat40 xs)[j]? = some u → w.cell? (b.add j) = some u := by
  intro j u hj
  have hlt : j < (flat40 xs).length := (List.getElem?_eq_some_iff.1 hj).1
  rw [flat40_length] at hlt
  have hi : j / 2 < xs.length := by omega
  obtain ⟨ad, c, e, hc1, hK, hc2⟩ := Kd.C_get h z40 ((j / 2 : Nat) : Int) (by omega) (by have := h.1; omega)
  obtain rfl := k40_open hK
  rw [hb] at e
  cases e
  have h2 := flat40_at xs (j / 2) xs[j / 2] (List.getElem?_eq_getElem hi)
  have h3 : (((flat40 xs).drop (j / 2 * 2)).take 2)[j % 2]? = some u := by
    rw [List.getElem?_take, if_pos (by omega), List.getElem?_drop, show j / 2 * 2 + j % 2 = j by omega, hj]
  rw [h2] at h3
  have h4 := hc2 (j % 2) u (by
    rw [← h3]
    simp only [Int.toNat_natCast, List.getD_eq_getElem?_getD, List.getElem?_eq_getElem hi, Option.getD_some])
  simp only [Int.toNat_natCast, show k40.sz = 2 from rfl] at h4
  rwa [show j / 2 * 2 + j % 2 = j by omega] at h4
theorem own_of_flat {w : World} {base : Nat} {v : Value} {xs : List S40} (h : w.ownsRow base 40 2 v xs.length (flat40 xs)) : Own w base v xs := ⟨fun _ _ => trivial, flat40 xs, h, flat40_reps _ _ _ _⟩
section
variable {ops : Array Oper} {o : Oper} {a : Act} {Q : Exit → Act → World → Prop} {Kc : Act → World → Prop} {E : Prop}
/-- append(l[:m:m], x) in a region: it always makes a new row. -/
theorem growStep {w0 W : World} (hg : o.guard = none) (s x : Operand) (hop : o.op = Op.call { callee := Callee.builtin Builtin.append, args := #[s, x], argTypes := #[22, 22] })
    (A : Option Addr) (xs : List S40) (p q : ByteArray) (g : Nat) (hs : a.eval s = .slice A xs.length xs.length) (hx : a.eval x = .slice (some ⟨g, 0, none⟩) 1 1)
    (HR : Kd.C k40 W A xs.length xs) (h0 : W.cell? ⟨g, 0, none⟩ = some (.string p)) (h1 : W.cell? ⟨g, 1, none⟩ = some (.string q)) (hl : xs.length < 4398046511103)
    (hK : ∀ v' w', Own w' W.heap.size v' (xs ++ [⟨p, q⟩]) → Below W.heap.size W w' → Kc (a.put o.dst v') w') :
    if Region.wanted o (yielded ops a.tmps) = true then Oper.wp Try.prog o a W Kc Q else E := by
  obtain ⟨i0, hi, hz0, hz1, hz2⟩ := info_parts info40
  refine step_append_grows hg s x 22 hop 40 i0 (.agg #[(.string ⟨#[]⟩), (.string ⟨#[]⟩)]) 2 32 Try.underlying22 hi hz0 hz1 hz2 rfl (by decide) A xs.length xs.length (flat40 xs) hs (fun h => ?_) (flat40_length xs) (fun b hb => C_flat HR b hb) ⟨g, 0, none⟩ 1 1 [.string p, .string q] hx rfl (fun j u hj => ?_) (fun u hu => ?_) (by omega) (by simp only [maxLen]; omega) (by omega) (fun v' w' ho hgr => hK v' w' ?_ ?_)
  · subst h
    rcases Nat.eq_zero_or_pos xs.length with h | h
    · exact ⟨h, h⟩
    · obtain ⟨ad, h, _⟩ := HR.2.2 h
      cases h
  · match j, hj with
    | 0, hj => obtain rfl : Value.string p = u := by simpa using hj
               simpa [Addr.add] using h0
    | 1, hj => obtain rfl : Value.string q = u := by simpa using hj
               simpa [Addr.add] using h1
    | j + 2, hj => simp at hj
  · simp only [List.mem_cons, List.not_mem_nil, or_false] at hu
    rcases hu with rfl | rfl <;> rfl
  · have := own_of_flat (w := w') (base := W.heap.size) (v := v') (xs := xs ++ [⟨p, q⟩])
    rw [flat40_append, List.length_append] at this
    exact this ho
  · exact ⟨hgr.os, hgr.tape, hgr.output, hgr.size, fun i hi => hgr.block i hi (by simp)⟩
/-- append(v, ys...) in a region, v the call's own. -/
theorem rowsStep {w0 W : World} (base : Nat) (hw : Region.wanted o (yielded ops a.tmps) = true) (s x : Operand) (hop : o.op = Op.call { callee := Callee.builtin Builtin.append, args := #[s, x], argTypes := #[22, 22] })
    (v : Value) (xs ys : List S40) (A : Option Addr) (c : Nat) (hs : a.eval s = v) (hx : a.eval x = .slice A ys.length c) (HO : Own W base v xs) (HR : Kd.C k40 W A ys.length ys) (HB : Below base w0 W) (hbase : base ≤ W.heap.size) (hl : xs.length + ys.length < 4398046511104)
    (hK : ∀ v1 w1, Own w1 base v1 (xs ++ ys) → Below base w0 w1 → Kc (a.put o.dst v1) w1) :
    if Region.wanted o (yielded ops a.tmps) = true then Oper.wp Try.prog o a W Kc Q else Kc (a.put o.dst undef) W := by
  refine Kd.R_append_rows_step k40 (w0 := w0) base hw s x 22 40 (.agg #[(.string ⟨#[]⟩), (.string ⟨#[]⟩)]) 32 hop Try.underlying22 info40 rfl (by decide) (by omega) v xs ys A ys.length c (fun _ => True) (fun _ => False) hs hx HO HR (fun _ _ h => h) (fun _ h => h.elim) (fun _ _ => trivial) HB hbase (by omega) ?_
  intro v1 w1 h1 h2 _ _
  exact hK v1 w1 h1 h2
end
end Go.Proofs.Ytcnmefocbjilbaa.G
namespace Go.Proofs.Ytcnmefocbjilbaa.G
open Go.RowKit Go.Proofs.YtcnmefocbjilbaaW.PrintWords Go.Proofs.YtcnmefocbjilbaaW.PrintLast Go.Proofs.YtcnmefocbjilbaaW.PrintMore
open Go.Proofs.YtcnmefocbjilbaaFlat
set_option maxHeartbeats 1000000

def putOk (l : List S40) (c : S40) : Bool := rightB l && fitsB c
def PutPost (l : List S40) (c : S40) (w : World) (r : Ending) (w' : World) : Prop :=
  ∃ v : Value, r = .returned (.tuple #[v, .int .i64 (if putOk l c = true then 0 else 100)]) ∧ Own w' w.heap.size v (if putOk l c = true then putS l c else []) ∧ Below w.heap.size w w'
set_option maxRecDepth 100000 in
theorem Put_calls (A : Option Addr) (c : Nat) (l : List S40) (p q : ByteArray) (w : World) (HR : Kd.C k40 w A l.length l) (hl : l.length < 4398046511102) (hc : l.length ≤ c) :
    Calls Try.prog 31 #[.slice A l.length c, .agg #[.string p, .string q]] w (PutPost l ⟨p, q⟩ w) := by
  have HR0 := Aside0.mk HR
  have HLC := Aside0.mk hc
  clear HR
  go_enter Try.func31, Try.ntmps31
  go_wp2_with fail
  have D0 := Aside0.mk (cell_new2 w #[.string p, .string q] 40 0 _ rfl)
  have D1 := Aside0.mk (cell_new2 w #[.string p, .string q] 40 1 _ rfl)
  have HB0 := Aside0.mk (below_alloc (Below.refl w.heap.size w) (.cells #[.string p, .string q] 40 (0, 0)))
  refine (cells_Right_calls _ _ _ _ (by exact Kd.C_below HR0.out HB0.out)).mono ?_
  rintro e w1 ⟨rfl, hb⟩
  have HB := Aside0.mk (HB0.out.trans (hb.mono HB0.out.size))
  have C0 := Aside0.mk (pw_cell_below hb D0.out)
  have C1 := Aside0.mk (pw_cell_below hb D1.out)
  have HG : w.heap.size < w1.heap.size := by have := hb.size; simp at this; omega
  clear hb D0 D1 HB0
  cases hr : rightB l
  · have Hr := Aside0.mk hr
    clear hr
    go_wp2
    go_ret2
    exact ⟨.slice none 0 0, by simp [putOk, Hr.out], by simpa [putOk, Hr.out] using Kd.R_nil k40 40 w1 w.heap.size (fun _ => True), HB.out⟩
  · have Hr := Aside0.mk hr
    have c0 := C0.out
    have c1 := C1.out
    clear hr
    go_wp2_with fail
    clear c0 c1
    refine (cright_calls p q _).mono ?_
    rintro e w2 ⟨rfl, hb⟩
    have HB2 := Aside0.mk (HB.out.trans (hb.mono HB.out.size))
    have E0 := Aside0.mk (pw_cell_below hb C0.out)
    have E1 := Aside0.mk (pw_cell_below hb C1.out)
    have HG2 : w.heap.size < w2.heap.size := by have := hb.size; omega
    clear hb C0 C1 HG HB
    cases hf : fitsB ⟨p, q⟩
    · have Hf := Aside0.mk hf
      clear hf
      go_wp2
      go_ret2
      exact ⟨.slice none 0 0, by simp [putOk, Hf.out], by simpa [putOk, Hf.out] using Kd.R_nil k40 40 w2 w.heap.size (fun _ => True), HB2.out⟩
    · have Hf := Aside0.mk hf
      have hok : putOk l ⟨p, q⟩ = true := by simp [putOk, Hr.out, Hf.out]
      have HOK := Aside0.mk hok
      have c0 := E0.out
      have c1 := E1.out
      clear hf hok
      go_wp2_with fail
      clear c0 c1
      refine (At_calls A c l p _ (Kd.C_below HR0.out HB2.out) (by omega)).mono ?_
      rintro e w3 ⟨n, rfl, _, ht, hb⟩
      obtain ⟨h0, h1, h2, h3⟩ := ht Hr.out
      have HB3 := Aside0.mk (HB2.out.trans (hb.mono HB2.out.size))
      have F0 := Aside0.mk (pw_cell_below hb E0.out)
      have F1 := Aside0.mk (pw_cell_below hb E1.out)
      have HG3 : w.heap.size < w3.heap.size := by have := hb.size; omega
      have HH2 := Aside0.mk h2
      have HH3 := Aside0.mk h3
      clear hb ht h2 h3 E0 E1 HG2 HB2
      by_cases hk : 0 ≤ n ∧ isKey p (rd_T40 l n) = true
      · obtain ⟨g0, g1⟩ := hk
        obtain ⟨m, rfl⟩ := Int.eq_ofNat_of_zero_le g0
        obtain ⟨ad, rfl, hx0, hx1⟩ := at_T40 HR0.out m g0 h1
        simp only [Int.toNat_natCast] at hx0 hx1
        have X0 := Aside0.mk hx0
        have G1 := Aside0.mk g1
        have PF := Aside0.mk (put_found (c := ⟨p, q⟩) Hr.out (n := m) (by omega) g1)
        clear hx0 hx1 h0 g1
        go_wp2_with fail
        refine wp_region_flat (fun w' => w'.cell? ⟨w.heap.size, 0, none⟩ = some (.string p) ∧ w'.cell? ⟨w.heap.size, 1, none⟩ = some (.string q) ∧ Below w.heap.size w w' ∧ w.heap.size < w'.heap.size) (by kernel_rfl) (by kernel_rfl) ⟨F0.out, F1.out, below_drew HB3.out, HG3⟩ ?_
        repeat
          (apply Flat.cons
           · intro w' hS
             obtain ⟨s0, s1, s2, s3⟩ := hS
             have S2 := Aside0.mk s2
             have x0 := pw_cell_below s2 X0.out
             have g1 := G1.out
             unfold isKey at g1
             clear s2
             go_wp2_with fail
             exact flat_end rfl ⟨s0, s1, S2.out, s3⟩
           · exact rfl)
        refine Flat.nil fun W2 hS => ?_
        obtain ⟨s0, s1, s2, s3⟩ := hS
        have HB4 := Aside0.mk s2
        have S0 := Aside0.mk s0
        have S1 := Aside0.mk s1
        clear s2 s0 s1 F0 F1 HB3 HG3
        go_wp2_with fail
        refine (Clone_calls _ c l _ (Kd.C_below HR0.out HB4.out) (by omega)).mono ?_
        rintro e w5 ⟨v, rfl, ho, hb⟩
        obtain ⟨g, cap, rfl, hg1, hg2, _⟩ := Kd.R_form ho (by omega)
        obtain ⟨k1, k2, ⟨u0, k3⟩, ⟨u1, k4⟩, k5, k6⟩ := set40 ho m (by omega) p q
        have s0 := pw_cell_below hb S0.out
        have s1 := pw_cell_below hb S1.out
        have hne : ¬ w.heap.size = g := by omega
        have HB5 := Aside0.mk (HB4.out.trans (hb.mono HB4.out.size))
        have HBB := Aside0.mk hb
        have K1 := Aside0.mk k1
        have K2 := Aside0.mk k2
        clear hb ho k1 k2
        have ek : ((m : Int)).toNat = m := by omega
        go_wp2
        go_ret2
        exact ⟨.slice (some ⟨g, 0, none⟩) l.length cap, by simp [HOK.out], by
          rw [if_pos HOK.out, ← PF.out]
          exact Kd.R_lower K1.out HB4.out.size, pw_below_grown HB5.out _ HB5.out.size K2.out (fun k hk => by
          injection hk with hk
          have := HB4.out.size
          omega)⟩
      · have PN := Aside0.mk (put_new (c := ⟨p, q⟩) Hr.out (m := (n + 1).toNat) (by omega) (fun h => by
          rw [show (((n + 1).toNat - 1 : Nat) : Int) = n by omega]; exact HH2.out (by omega)) (fun h => by
          rw [show (((n + 1).toNat : Nat) : Int) = n + 1 by omega]; exact HH3.out (by omega)) (fun h => by
          rw [show (((n + 1).toNat - 1 : Nat) : Int) = n by omega]
          cases hb : isKey p (rd_T40 l n)
          · rfl
          · exact absurd ⟨by omega, hb⟩ hk))
        clear HH2 HH3
        have hj0 : 0 ≤ n + 1 := by omega
        have hlt : (l.take (n + 1).toNat).length = (n + 1).toNat := by rw [List.length_take]; omega
        have hld : (l.drop (n + 1).toNat).length = l.length - (n + 1).toNat := by rw [List.length_drop]
        have hsl1 : ∀ W : World, (Instr.slice 22 (.slice A l.length c) none (some (.int .i64 (n + 1))) (some (.int .i64 (n + 1)))).run Try.prog W = .ok (.slice A (l.take (n + 1).toNat).length (l.take (n + 1).toNat).length) W := fun W => by rw [hlt]; exact cut3 A l.length c (n + 1) hj0 (by omega) W
        obtain ⟨B, hsl2, hcd⟩ : ∃ B : Option Addr, (∀ W : World, (Instr.slice 22 (.slice A l.length c) (some (.int .i64 (n + 1))) none none).run Try.prog W = .ok (.slice B (l.drop (n + 1).toNat).length (c - (n + 1).toNat)) W) ∧ Kd.C k40 w B (l.drop (n + 1).toNat).length (l.drop (n + 1).toNat) :=
          ⟨_, fun W : World => by rw [hld]; exact cutL A l.length c (n + 1) hj0 (by omega) W, Kd.C_drop (m := (n + 1).toNat) HR0.out (by omega) hc⟩
        have HCD := Aside0.mk hcd
        have HT := Aside0.mk (Kd.C_take (m := (n + 1).toNat) HR0.out (by omega))
        have HLT := Aside0.mk hlt
        have HLD := Aside0.mk hld
        clear hcd hlt hld
        generalize l.take (n + 1).toNat = l1 at hsl1 HT HLT PN
        generalize l.drop (n + 1).toNat = l2 at hsl2 HCD HLD PN
        by_cases g0 : 0 ≤ n
        · have g1 : isKey p (rd_T40 l n) = false := by
            cases hb : isKey p (rd_T40 l n)
            · rfl
            · exact absurd ⟨g0, hb⟩ hk
          obtain ⟨ad, rfl, hx0, hx1⟩ := at_T40 HR0.out n g0 h1
          have X0 := Aside0.mk hx0
          have G1 := Aside0.mk g1
          clear hx0 hx1 h0 g1 hk
          go_wp2_with fail
          refine wp_region_flat (fun w' => w'.cell? ⟨w.heap.size, 0, none⟩ = some (.string p) ∧ w'.cell? ⟨w.heap.size, 1, none⟩ = some (.string q) ∧ Below w.heap.size w w' ∧ w.heap.size < w'.heap.size) (by kernel_rfl) (by kernel_rfl) ⟨F0.out, F1.out, below_drew HB3.out, HG3⟩ ?_
          repeat
            (apply Flat.cons
             · intro w' hS
               obtain ⟨s0, s1, s2, s3⟩ := hS
               have S2 := Aside0.mk s2
               have x0 := pw_cell_below s2 X0.out
               have g1 := G1.out
               unfold isKey at g1
               clear s2
               go_wp2_with fail
               exact flat_end rfl ⟨s0, s1, S2.out, s3⟩
             · exact rfl)
          refine Flat.nil fun W2 hS => ?_
          obtain ⟨s0, s1, s2, s3⟩ := hS
          have HB4 := Aside0.mk s2
          have S0 := Aside0.mk s0
          have S1 := Aside0.mk s1
          clear s2 F0 F1 HB3 HG3
          go_wp2_with fail
          refine wp_region_held (S := fun w' => w'.cell? ⟨w.heap.size, 0, none⟩ = some (.string p) ∧ w'.cell? ⟨w.heap.size, 1, none⟩ = some (.string q)) (by kernel_rfl) ?_
          apply hTake 0 rfl rfl rfl (Nat.le_of_ble_eq_true rfl) (by kernel_rfl) (by kernel_rfl) (by kernel_rfl) rfl (fun _ _ _ h => h) (by exact ⟨s0, s1⟩)
          · intro w' hS
            obtain ⟨s0, s1⟩ := hS
            go_wp2_with fail
            exact pure_end rfl rfl
          · exact rfl
          apply hTake 1 rfl rfl rfl (Nat.le_of_ble_eq_true rfl) (by kernel_rfl) (by kernel_rfl) (by kernel_rfl) rfl (fun _ _ _ h => h) (by exact ⟨s0, s1⟩)
          · intro w' hS
            obtain ⟨s0, s1⟩ := hS
            go_wp2_with fail
            exact pure_end rfl rfl
          · exact rfl
          apply hTake 2 rfl rfl rfl (Nat.le_of_ble_eq_true rfl) (by kernel_rfl) (by kernel_rfl) (by kernel_rfl) rfl (fun _ _ _ h => h) (by exact ⟨s0, s1⟩)
          · intro w' hS
            obtain ⟨s0, s1⟩ := hS
            go_wp2_with fail
            exact pure_end rfl rfl
          · exact rfl
          apply hTake 3 rfl rfl rfl (Nat.le_of_ble_eq_true rfl) (by kernel_rfl) (by kernel_rfl) (by kernel_rfl) rfl (fun _ _ _ h => h) (by exact ⟨s0, s1⟩)
          · intro w' hS
            obtain ⟨s0, s1⟩ := hS
            go_wp2_with fail
            exact pure_end rfl rfl
          · exact rfl
          apply hTake 4 rfl rfl rfl (Nat.le_of_ble_eq_true rfl) (by kernel_rfl) (by kernel_rfl) (by kernel_rfl) rfl (fun _ _ _ h => h) (by exact ⟨s0, s1⟩)
          · intro w' hS
            obtain ⟨s0, s1⟩ := hS
            go_wp2_with fail
            exact pure_end rfl rfl
          · exact rfl
          apply hTake 5 rfl rfl rfl (Nat.le_of_ble_eq_true rfl) (by kernel_rfl) (by kernel_rfl) (by kernel_rfl) rfl (fun _ _ _ h => h) (by exact ⟨s0, s1⟩)
          · intro w' hS
            obtain ⟨s0, s1⟩ := hS
            go_wp2_with fail
            exact pure_end rfl rfl
          · exact rfl
          apply hTake 6 rfl rfl rfl (Nat.le_of_ble_eq_true rfl) (by kernel_rfl) (by kernel_rfl) (by kernel_rfl) rfl (fun _ _ _ h => h) (by exact ⟨s0, s1⟩)
          · intro w' hS
            obtain ⟨s0, s1⟩ := hS
            go_wp2_with fail
            exact pure_end rfl rfl
          · exact rfl
          apply hTake 9 rfl rfl rfl (Nat.le_of_ble_eq_true rfl) (by kernel_rfl) (by kernel_rfl) (by kernel_rfl) rfl (fun _ _ _ h => h) (by exact ⟨s0, s1⟩)
          · intro w' hS
            obtain ⟨s0, s1⟩ := hS
            go_wp2_with fail
            exact pure_end rfl rfl
          · exact rfl
          apply hTake 10 rfl rfl rfl (Nat.le_of_ble_eq_true rfl) (by kernel_rfl) (by kernel_rfl) (by kernel_rfl) rfl (fun _ _ _ h => h) (by exact ⟨s0, s1⟩)
          · intro w' hS
            obtain ⟨s0, s1⟩ := hS
            go_wp2_with fail
            exact pure_end rfl rfl
          · exact rfl
          apply hTake 11 rfl rfl rfl (Nat.le_of_ble_eq_true rfl) (by kernel_rfl) (by kernel_rfl) (by kernel_rfl) rfl (fun _ _ _ h => h) (by exact ⟨s0, s1⟩)
          · intro w' hS
            obtain ⟨s0, s1⟩ := hS
            go_wp2_with fail
            exact pure_end rfl rfl
          · exact rfl
          apply hTake 12 rfl rfl rfl (Nat.le_of_ble_eq_true rfl) (by kernel_rfl) (by kernel_rfl) (by kernel_rfl) rfl (fun _ _ _ h => h) (by exact ⟨s0, s1⟩)
          · intro w' hS
            obtain ⟨s0, s1⟩ := hS
            go_wp2_with fail
            exact pure_end rfl rfl
          · exact rfl
          apply hEff 7 rfl (by kernel_rfl) rfl
          go_wp2_with fail
          refine eff_end ⟨pw_cell_below (below_alloc (Below.refl _ _) _) s0, pw_cell_below (below_alloc (Below.refl _ _) _) s1⟩ ?_
          apply hEff 8 rfl (by kernel_rfl) rfl
          refine wpList_step fun K hK => growStep (w0 := w) rfl (.tmp 44) (.tmp 46) rfl (some ad) l1 p q W2.heap.size rfl rfl (by exact Kd.C_alloc (Kd.C_below HT.out HB4.out) _) (by exact cell_new2 W2 #[.string p, .string q] 40 0 _ rfl) (by exact cell_new2 W2 #[.string p, .string q] 40 1 _ rfl) (by have := HLT.out; omega) fun v5 w5 ho hb => hK _ _ ?_
          have HBW := Aside0.mk (below_drew (below_alloc HB4.out (.cells #[.string p, .string q] 40 (0, 0))))
          have T0 : Aside0 ((W2.alloc (.cells #[.string p, .string q] 40 (0, 0))).drew.cell? ⟨w.heap.size, 0, none⟩ = some (.string p)) := ⟨pw_cell_below (below_alloc (Below.refl _ W2) _) s0⟩
          have T1 : Aside0 ((W2.alloc (.cells #[.string p, .string q] 40 (0, 0))).drew.cell? ⟨w.heap.size, 1, none⟩ = some (.string q)) := ⟨pw_cell_below (below_alloc (Below.refl _ W2) _) s1⟩
          generalize (W2.alloc (.cells #[.string p, .string q] 40 (0, 0))).drew = W3 at ho hb HBW T0 T1
          refine eff_end ⟨pw_cell_below hb T0.out, pw_cell_below hb T1.out⟩ ?_
          apply hEff 13 rfl (by kernel_rfl) rfl
          refine wpList_step fun K hK => rowsStep (w0 := W3) W3.heap.size rfl (.tmp 47) (.tmp 51) rfl v5 (l1 ++ [⟨p, q⟩]) l2 B (c - (n + 1).toNat) rfl rfl ho (Kd.C_below HCD.out (HBW.out.trans (hb.mono HBW.out.size))) hb hb.size (by have := HLT.out; have := HLD.out; simp only [List.length_append, List.length_singleton]; omega) fun v6 w6 ho2 hb2 => hK _ _ ?_
          refine eff_end ⟨pw_cell_below hb2 T0.out, pw_cell_below hb2 T1.out⟩ ?_
          have HO6 := Aside0.mk (Kd.R_lower ho2 HBW.out.size)
          have HB6 := Aside0.mk (HBW.out.trans (hb2.mono HBW.out.size))
          have U0 := pw_cell_below hb2 T0.out
          have U1 := pw_cell_below hb2 T1.out
          clear ho hb ho2 hb2 T0 T1 s0 s1 S0 S1
          apply hEff 14 rfl (by kernel_rfl) rfl
          go_wp2_with fail
          refine eff_end ⟨U0, U1⟩ ?_
          apply hEff 15 rfl (by kernel_rfl) rfl
          go_wp2_with fail
          refine eff_end ⟨U0, U1⟩ ?_
          refine hDone (by kernel_rfl) ?_
          go_wp2
          go_ret2
          exact ⟨v6, by simp [HOK.out], by rw [if_pos HOK.out, ← PN.out]; exact HO6.out, HB6.out⟩
        · have gf : decide (0 ≤ n) = false := by simp; omega
          have gn : n < 0 := by omega
          clear hk h0 g0
          go_wp2_with fail
          refine wp_region_flat (fun w' => w'.cell? ⟨w.heap.size, 0, none⟩ = some (.string p) ∧ w'.cell? ⟨w.heap.size, 1, none⟩ = some (.string q) ∧ Below w.heap.size w w' ∧ w.heap.size < w'.heap.size) (by kernel_rfl) (by kernel_rfl) ⟨F0.out, F1.out, below_drew HB3.out, HG3⟩ ?_
          repeat
            (apply Flat.cons
             · intro w' hS
               obtain ⟨s0, s1, s2, s3⟩ := hS
               have S2 := Aside0.mk s2
               clear s2
               go_wp2_with fail
               exact flat_end rfl ⟨s0, s1, S2.out, s3⟩
             · exact rfl)
          refine Flat.nil fun W2 hS => ?_
          obtain ⟨s0, s1, s2, s3⟩ := hS
          have HB4 := Aside0.mk s2
          have S0 := Aside0.mk s0
          have S1 := Aside0.mk s1
          clear s2 F0 F1 HB3 HG3
          go_wp2_with fail
          refine wp_region_held (S := fun w' => w'.cell? ⟨w.heap.size, 0, none⟩ = some (.string p) ∧ w'.cell? ⟨w.heap.size, 1, none⟩ = some (.string q)) (by kernel_rfl) ?_
          apply hTake 0 rfl rfl rfl (Nat.le_of_ble_eq_true rfl) (by kernel_rfl) (by kernel_rfl) (by kernel_rfl) rfl (fun _ _ _ h => h) (by exact ⟨s0, s1⟩)
          · intro w' hS
            obtain ⟨s0, s1⟩ := hS
            go_wp2_with fail
            exact pure_end rfl rfl
          · exact rfl
          apply hTake 1 rfl rfl rfl (Nat.le_of_ble_eq_true rfl) (by kernel_rfl) (by kernel_rfl) (by kernel_rfl) rfl (fun _ _ _ h => h) (by exact ⟨s0, s1⟩)
          · intro w' hS
            obtain ⟨s0, s1⟩ := hS
            go_wp2_with fail
            exact pure_end rfl rfl
          · exact rfl
          apply hTake 2 rfl rfl rfl (Nat.le_of_ble_eq_true rfl) (by kernel_rfl) (by kernel_rfl) (by kernel_rfl) rfl (fun _ _ _ h => h) (by exact ⟨s0, s1⟩)
          · intro w' hS
            obtain ⟨s0, s1⟩ := hS
            go_wp2_with fail
            exact pure_end rfl rfl
          · exact rfl
          apply hTake 3 rfl rfl rfl (Nat.le_of_ble_eq_true rfl) (by kernel_rfl) (by kernel_rfl) (by kernel_rfl) rfl (fun _ _ _ h => h) (by exact ⟨s0, s1⟩)
          · intro w' hS
            obtain ⟨s0, s1⟩ := hS
            go_wp2_with fail
            exact pure_end rfl rfl
          · exact rfl
          apply hTake 4 rfl rfl rfl (Nat.le_of_ble_eq_true rfl) (by kernel_rfl) (by kernel_rfl) (by kernel_rfl) rfl (fun _ _ _ h => h) (by exact ⟨s0, s1⟩)
          · intro w' hS
            obtain ⟨s0, s1⟩ := hS
            go_wp2_with fail
            exact pure_end rfl rfl
          · exact rfl
          apply hTake 5 rfl rfl rfl (Nat.le_of_ble_eq_true rfl) (by kernel_rfl) (by kernel_rfl) (by kernel_rfl) rfl (fun _ _ _ h => h) (by exact ⟨s0, s1⟩)
          · intro w' hS
            obtain ⟨s0, s1⟩ := hS
            go_wp2_with fail
            exact pure_end rfl rfl
          · exact rfl
          apply hTake 6 rfl rfl rfl (Nat.le_of_ble_eq_true rfl) (by kernel_rfl) (by kernel_rfl) (by kernel_rfl) rfl (fun _ _ _ h => h) (by exact ⟨s0, s1⟩)
          · intro w' hS
            obtain ⟨s0, s1⟩ := hS
            go_wp2_with fail
            exact pure_end rfl rfl
          · exact rfl
          apply hTake 9 rfl rfl rfl (Nat.le_of_ble_eq_true rfl) (by kernel_rfl) (by kernel_rfl) (by kernel_rfl) rfl (fun _ _ _ h => h) (by exact ⟨s0, s1⟩)
          · intro w' hS
            obtain ⟨s0, s1⟩ := hS
            go_wp2_with fail
            exact pure_end rfl rfl
          · exact rfl
          apply hTake 10 rfl rfl rfl (Nat.le_of_ble_eq_true rfl) (by kernel_rfl) (by kernel_rfl) (by kernel_rfl) rfl (fun _ _ _ h => h) (by exact ⟨s0, s1⟩)
          · intro w' hS
            obtain ⟨s0, s1⟩ := hS
            go_wp2_with fail
            exact pure_end rfl rfl
          · exact rfl
          apply hTake 11 rfl rfl rfl (Nat.le_of_ble_eq_true rfl) (by kernel_rfl) (by kernel_rfl) (by kernel_rfl) rfl (fun _ _ _ h => h) (by exact ⟨s0, s1⟩)
          · intro w' hS
            obtain ⟨s0, s1⟩ := hS
            go_wp2_with fail
            exact pure_end rfl rfl
          · exact rfl
          apply hTake 12 rfl rfl rfl (Nat.le_of_ble_eq_true rfl) (by kernel_rfl) (by kernel_rfl) (by kernel_rfl) rfl (fun _ _ _ h => h) (by exact ⟨s0, s1⟩)
          · intro w' hS
            obtain ⟨s0, s1⟩ := hS
            go_wp2_with fail
            exact pure_end rfl rfl
          · exact rfl
          apply hEff 7 rfl (by kernel_rfl) rfl
          go_wp2_with fail
          refine eff_end ⟨pw_cell_below (below_alloc (Below.refl _ _) _) s0, pw_cell_below (below_alloc (Below.refl _ _) _) s1⟩ ?_
          apply hEff 8 rfl (by kernel_rfl) rfl
          refine wpList_step fun K hK => growStep (w0 := w) rfl (.tmp 44) (.tmp 46) rfl A l1 p q W2.heap.size rfl rfl (by exact Kd.C_alloc (Kd.C_below HT.out HB4.out) _) (by exact cell_new2 W2 #[.string p, .string q] 40 0 _ rfl) (by exact cell_new2 W2 #[.string p, .string q] 40 1 _ rfl) (by have := HLT.out; omega) fun v5 w5 ho hb => hK _ _ ?_
          have HBW := Aside0.mk (below_drew (below_alloc HB4.out (.cells #[.string p, .string q] 40 (0, 0))))
          have T0 : Aside0 ((W2.alloc (.cells #[.string p, .string q] 40 (0, 0))).drew.cell? ⟨w.heap.size, 0, none⟩ = some (.string p)) := ⟨pw_cell_below (below_alloc (Below.refl _ W2) _) s0⟩
          have T1 : Aside0 ((W2.alloc (.cells #[.string p, .string q] 40 (0, 0))).drew.cell? ⟨w.heap.size, 1, none⟩ = some (.string q)) := ⟨pw_cell_below (below_alloc (Below.refl _ W2) _) s1⟩
          generalize (W2.alloc (.cells #[.string p, .string q] 40 (0, 0))).drew = W3 at ho hb HBW T0 T1
          refine eff_end ⟨pw_cell_below hb T0.out, pw_cell_below hb T1.out⟩ ?_
          apply hEff 13 rfl (by kernel_rfl) rfl
          refine wpList_step fun K hK => rowsStep (w0 := W3) W3.heap.size rfl (.tmp 47) (.tmp 51) rfl v5 (l1 ++ [⟨p, q⟩]) l2 B (c - (n + 1).toNat) rfl rfl ho (Kd.C_below HCD.out (HBW.out.trans (hb.mono HBW.out.size))) hb hb.size (by have := HLT.out; have := HLD.out; simp only [List.length_append, List.length_singleton]; omega) fun v6 w6 ho2 hb2 => hK _ _ ?_
          refine eff_end ⟨pw_cell_below hb2 T0.out, pw_cell_below hb2 T1.out⟩ ?_
          have HO6 := Aside0.mk (Kd.R_lower ho2 HBW.out.size)
          have HB6 := Aside0.mk (HBW.out.trans (hb2.mono HBW.out.size))
          have U0 := pw_cell_below hb2 T0.out
          have U1 := pw_cell_below hb2 T1.out
          clear ho hb ho2 hb2 T0 T1 s0 s1 S0 S1
          apply hEff 14 rfl (by kernel_rfl) rfl
          go_wp2_with fail
          refine eff_end ⟨U0, U1⟩ ?_
          apply hEff 15 rfl (by kernel_rfl) rfl
          go_wp2_with fail
          refine eff_end ⟨U0, U1⟩ ?_
          refine hDone (by kernel_rfl) ?_
          go_wp2
          go_ret2
          exact ⟨v6, by simp [HOK.out], by rw [if_pos HOK.out, ← PN.out]; exact HO6.out, HB6.out⟩
end Go.Proofs.Ytcnmefocbjilbaa.G
namespace Go.Proofs.Ytcnmefocbjilbaa.G
open Go.RowKit Go.Proofs.YtcnmefocbjilbaaW.PrintWords Go.Proofs.YtcnmefocbjilbaaW.PrintLast Go.Proofs.YtcnmefocbjilbaaW.PrintMore
open Go.Proofs.YtcnmefocbjilbaaFlat
set_option maxHeartbeats 1000000

/-- Block b alone may have changed: it is of those cells now. -/
structure Only (w w' : World) (b : Nat) (cs : Array Value) (t : TypeId) : Prop where
  os : w'.os = w.os
  tape : w'.tape = w.tape
  output : w'.output = w.output
  size : w'.heap.size = w.heap.size
  here : w'.heap[b]? = some (.cells cs t (0, 0))
  other : ∀ k, k ≠ b → w'.heap[k]? = w.heap[k]?
theorem Only.refl {w : World} {b : Nat} {cs : Array Value} {t : TypeId} (h : w.heap[b]? = some (.cells cs t (0, 0))) : Only w w b cs t := ⟨rfl, rfl, rfl, rfl, h, fun _ _ => rfl⟩
theorem Only.set {w w' : World} {b : Nat} {cs : Array Value} {t : TypeId} (h : Only w w' b cs t) (j : Nat) (v : Value) : Only w (w'.setCell ⟨b, j, none⟩ v) b (cs.setIfInBounds j v) t := by
  have h1 := h.here
  obtain ⟨s1, s2, s3, s4⟩ := setCells_same b [v] j w'
  exact ⟨s1.trans h.os, s2.trans h.tape, s3.trans h.output, s4.trans h.size, blk_set h1 j v, fun k hk => (Below.heap_setCell w' ⟨b, j, none⟩ v k hk).trans (h.other k hk)⟩
theorem Only.drew {w w' : World} {b : Nat} {cs : Array Value} {t : TypeId} (h : Only w w' b cs t) : Only w w'.drew b cs t := ⟨h.os, h.tape, h.output, h.size, h.here, h.other⟩
theorem Only.drewN {w w' : World} {b : Nat} {cs : Array Value} {t : TypeId} (h : Only w w' b cs t) (n : Nat) : Only w (w'.drewN n) b cs t := ⟨h.os, h.tape, h.output, h.size, h.here, h.other⟩
theorem Only.below {w w' : World} {b : Nat} {cs : Array Value} {t : TypeId} (h : Only w w' b cs t) {B : Nat} (hb : B ≤ b) : Below B w w' := ⟨h.os, h.tape, h.output, Nat.le_of_eq h.size.symm, fun k hk => h.other k (by omega)⟩

theorem do2_calls (bi bv br : Nat) (is : Bool) (v : ByteArray) (a0 a1 a2 a3 a4 a5 a6 : Value) (w : World) (hi : w.cell? ⟨bi, 0, none⟩ = some (.bool is)) (hv : w.cell? ⟨bv, 0, none⟩ = some (.string v))
    (hr : w.heap[br]? = some (.cells #[a0, a1, a2, a3, a4, a5, a6] 34 (0, 0))) :
    Calls Try.prog 29 #[.pointer (some ⟨bi, 0, none⟩), .pointer (some ⟨bv, 0, none⟩), .pointer (some ⟨br, 0, none⟩)] w fun e w' => e = .returned (.tuple #[]) ∧ Only w w' br #[a0, a1, a2, a3, .bool is, .string v, a6] 34 := by
  have h4 := (blk_cell hr 4).trans rfl
  have h5 := (blk_cell hr 5).trans rfl
  have f4 := blk_frozen hr 4
  have f5 := blk_frozen hr 5
  have HR := Aside0.mk hr
  clear hr
  go_enter Try.func29, Try.ntmps29
  go_wp2
  go_region
  go_end0
  exact ⟨rfl, (((Only.refl HR.out).set 4 (.bool is)).set 5 (.string v)).drew⟩

def okCall (x : S26) : Bool := !x.f1.toList.isEmpty && decide (x.f1.size ≤ 512) && decide (x.f2.size ≤ 2048)
/-- The variables of model.Do: blocks bl, bx, bo, br: the cells, the call, the map, the reply. -/
structure Vars (w : World) (bl bx : Nat) (A : Option Addr) (n c : Nat) (x : S26) : Prop where
  l : w.heap[bl]? = some (.cells #[.slice A n c] 22 (0, 0))
  x : w.heap[bx]? = some (.cells #[.int .u8 x.f0, .string x.f1, .string x.f2, .string x.f3.f0, .string x.f3.f1, .bool x.f3.f2, .int .i64 x.f4] 26 (0, 0))
theorem Vars.below {w w1 : World} {bl bx : Nat} {A : Option Addr} {n c : Nat} {x : S26} (h : Vars w bl bx A n c x) (hb : Below w.heap.size w w1) : Vars w1 bl bx A n c x := ⟨blk_below h.l hb, blk_below h.x hb⟩

/-- A closure that puts: block bo has the row then. -/
def PutsPost (w : World) (bo base : Nat) (out : List S40) (e : Ending) (w' : World) : Prop :=
  ∃ (v : Value) (w1 : World), e = .returned (.tuple #[]) ∧ Below w.heap.size w w1 ∧ Own w1 w.heap.size v out ∧ Only w1 w' bo #[v] 22
theorem do3_yes (bi bl bx bo : Nat) (A : Option Addr) (c : Nat) (l : List S40) (x : S26) (v0 : Value) (w : World) (hi : w.cell? ⟨bi, 0, none⟩ = some (.bool false)) (hV : Vars w bl bx A l.length c x) (hbo : w.heap[bo]? = some (.cells #[v0] 22 (0, 0)))
    (HR : Kd.C k40 w A l.length l) (hl : l.length < 4398046511102) (hc : l.length ≤ c) (hok : putOk l ⟨x.f1, x.f2⟩ = true) :
    Calls Try.prog 30 #[.pointer (some ⟨bi, 0, none⟩), .pointer (some ⟨bl, 0, none⟩), .pointer (some ⟨bx, 0, none⟩), .pointer (some ⟨bo, 0, none⟩)] w (PutsPost w bo 0 (putS l ⟨x.f1, x.f2⟩)) := by
  have x1 := (blk_cell hV.x 1).trans rfl
  have x2 := (blk_cell hV.x 2).trans rfl
  have l0 := (blk_cell hV.l 0).trans rfl
  have HO := Aside0.mk hbo
  have HR0 := Aside0.mk HR
  have HK := Aside0.mk hok
  clear hbo HR hok hV
  go_enter Try.func30, Try.ntmps30
  go_wp2_with fail
  refine (must_yes _ _).mono ?_
  rintro e w' ⟨rfl, rfl⟩
  go_wp2_with fail
  refine (Put_calls A c l x.f1 x.f2 _ HR0.out hl hc).mono ?_
  rintro e w1 ⟨v, he, ho, hb⟩
  rw [if_pos HK.out] at he ho
  obtain rfl := he
  obtain ⟨A1, c1, rfl⟩ := Kd.R_slice ho
  have HB := Aside0.mk hb
  have HV := Aside0.mk ho
  have HO1 := Aside0.mk (blk_below HO.out hb)
  have c0 := (blk_cell HO1.out 0).trans rfl
  have f0 := blk_frozen HO1.out 0
  clear hb ho
  go_wp2
  go_end0
  exact ⟨_, w1, rfl, HB.out, HV.out, (Only.refl HO1.out).set 0 _⟩
theorem do4_yes (bi bl bx bo : Nat) (A : Option Addr) (c : Nat) (l : List S40) (x : S26) (v0 : Value) (w : World) (hi : w.cell? ⟨bi, 0, none⟩ = some (.bool true)) (hV : Vars w bl bx A l.length c x) (hbo : w.heap[bo]? = some (.cells #[v0] 22 (0, 0)))
    (HR : Kd.C k40 w A l.length l) (hl : l.length < 4398046511102) (hc : l.length ≤ c) (hok : putOk l ⟨x.f1, x.f2⟩ = true) :
    Calls Try.prog 32 #[.pointer (some ⟨bi, 0, none⟩), .pointer (some ⟨bl, 0, none⟩), .pointer (some ⟨bx, 0, none⟩), .pointer (some ⟨bo, 0, none⟩)] w (PutsPost w bo 0 (putS l ⟨x.f1, x.f2⟩)) := by
  have x1 := (blk_cell hV.x 1).trans rfl
  have x2 := (blk_cell hV.x 2).trans rfl
  have l0 := (blk_cell hV.l 0).trans rfl
  have HO := Aside0.mk hbo
  have HR0 := Aside0.mk HR
  have HK := Aside0.mk hok
  clear hbo HR hok hV
  go_enter Try.func32, Try.ntmps32
  go_wp2_with fail
  refine (must_yes _ _).mono ?_
  rintro e w' ⟨rfl, rfl⟩
  go_wp2_with fail
  refine (Put_calls A c l x.f1 x.f2 _ HR0.out hl hc).mono ?_
  rintro e w1 ⟨v, he, ho, hb⟩
  rw [if_pos HK.out] at he ho
  obtain rfl := he
  obtain ⟨A1, c1, rfl⟩ := Kd.R_slice ho
  have HB := Aside0.mk hb
  have HV := Aside0.mk ho
  have HO1 := Aside0.mk (blk_below HO.out hb)
  have c0 := (blk_cell HO1.out 0).trans rfl
  have f0 := blk_frozen HO1.out 0
  clear hb ho
  go_wp2
  go_end0
  exact ⟨_, w1, rfl, HB.out, HV.out, (Only.refl HO1.out).set 0 _⟩
theorem do5_yes (bi bl bx bo : Nat) (A : Option Addr) (c : Nat) (l : List S40) (x : S26) (v0 : Value) (w : World) (hi : w.cell? ⟨bi, 0, none⟩ = some (.bool true)) (hV : Vars w bl bx A l.length c x) (hbo : w.heap[bo]? = some (.cells #[v0] 22 (0, 0)))
    (HR : Kd.C k40 w A l.length l) (hl : l.length < 4398046511102) (hr : rightB l = true) :
    Calls Try.prog 33 #[.pointer (some ⟨bi, 0, none⟩), .pointer (some ⟨bl, 0, none⟩), .pointer (some ⟨bx, 0, none⟩), .pointer (some ⟨bo, 0, none⟩)] w (PutsPost w bo 0 (l.filter (fun y => !isKey x.f1 y))) := by
  have x1 := (blk_cell hV.x 1).trans rfl
  have l0 := (blk_cell hV.l 0).trans rfl
  have HO := Aside0.mk hbo
  have HR0 := Aside0.mk HR
  have HK := Aside0.mk hr
  clear hbo HR hr hV
  go_enter Try.func33, Try.ntmps33
  go_wp2_with fail
  refine (must_yes _ _).mono ?_
  rintro e w' ⟨rfl, rfl⟩
  go_wp2_with fail
  refine (Delete_calls A c l x.f1 _ HR0.out (by omega)).mono ?_
  rintro e w1 ⟨v, he, ho, hb⟩
  rw [if_pos HK.out] at he ho
  obtain rfl := he
  obtain ⟨A1, c1, rfl⟩ := Kd.R_slice ho
  have HB := Aside0.mk hb
  have HV := Aside0.mk ho
  have HO1 := Aside0.mk (blk_below HO.out hb)
  have c0 := (blk_cell HO1.out 0).trans rfl
  have f0 := blk_frozen HO1.out 0
  clear hb ho
  go_wp2
  go_end0
  exact ⟨_, w1, rfl, HB.out, HV.out, (Only.refl HO1.out).set 0 _⟩
theorem do3_no (bi bl bx bo : Nat) (w : World) (hi : w.cell? ⟨bi, 0, none⟩ = some (.bool true)) :
    Calls Try.prog 30 #[.pointer (some ⟨bi, 0, none⟩), .pointer (some ⟨bl, 0, none⟩), .pointer (some ⟨bx, 0, none⟩), .pointer (some ⟨bo, 0, none⟩)] w fun e w' => e = .panicked [{ v := .iface 31 (.int .i64 8), recovered := false }] ∧ w = w' := by
  go_enter Try.func30, Try.ntmps30
  go_wp2_with fail
  refine (must_no _ _).mono ?_
  rintro e w' ⟨rfl, rfl⟩
  exact ⟨rfl, rfl, rfl⟩
theorem do4_no (bi bl bx bo : Nat) (w : World) (hi : w.cell? ⟨bi, 0, none⟩ = some (.bool false)) :
    Calls Try.prog 32 #[.pointer (some ⟨bi, 0, none⟩), .pointer (some ⟨bl, 0, none⟩), .pointer (some ⟨bx, 0, none⟩), .pointer (some ⟨bo, 0, none⟩)] w fun e w' => e = .panicked [{ v := .iface 31 (.int .i64 7), recovered := false }] ∧ w = w' := by
  go_enter Try.func32, Try.ntmps32
  go_wp2_with fail
  refine (must_no _ _).mono ?_
  rintro e w' ⟨rfl, rfl⟩
  exact ⟨rfl, rfl, rfl⟩
theorem do5_no (bi bl bx bo : Nat) (w : World) (hi : w.cell? ⟨bi, 0, none⟩ = some (.bool false)) :
    Calls Try.prog 33 #[.pointer (some ⟨bi, 0, none⟩), .pointer (some ⟨bl, 0, none⟩), .pointer (some ⟨bx, 0, none⟩), .pointer (some ⟨bo, 0, none⟩)] w fun e w' => e = .panicked [{ v := .iface 31 (.int .i64 7), recovered := false }] ∧ w = w' := by
  go_enter Try.func33, Try.ntmps33
  go_wp2_with fail
  refine (must_no _ _).mono ?_
  rintro e w' ⟨rfl, rfl⟩
  exact ⟨rfl, rfl, rfl⟩
end Go.Proofs.Ytcnmefocbjilbaa.G
namespace Go.Proofs.Ytcnmefocbjilbaa.G
open Go.RowKit Go.Proofs.YtcnmefocbjilbaaW.PrintWords Go.Proofs.YtcnmefocbjilbaaW.PrintLast Go.Proofs.YtcnmefocbjilbaaW.PrintMore
open Go.Proofs.YtcnmefocbjilbaaFlat
attribute [local go_sem] min2_int
set_option maxHeartbeats 1000000

def scanAll (l : List S40) (x : S26) : List S40 := l.filter (fun y => hasB x.f3.f0 x.f3.f1 x.f3.f2 y.f0)
def scanOk (x : S26) : Bool := rangeB x.f3.f0 x.f3.f1 x.f3.f2 && decide (1 ≤ x.f4)
def ScanPost (l : List S40) (x : S26) (w : World) (br : Nat) (a0 a1 a2 a3 a5 : Value) (e : Ending) (w' : World) : Prop :=
  ∃ (A : Option Addr) (cap : Nat) (w1 : World), e = .returned (.tuple #[]) ∧ Below w.heap.size w w1 ∧ ((scanAll l x).take x.f4.toNat).length ≤ cap ∧ Own w1 w.heap.size (.slice A ((scanAll l x).take x.f4.toNat).length cap) ((scanAll l x).take x.f4.toNat) ∧
    Only w1 w' br #[a0, a1, a2, a3, .bool (decide (x.f4 < (scanAll l x).length)), a5, .slice A ((scanAll l x).take x.f4.toNat).length ((scanAll l x).take x.f4.toNat).length] 34

theorem do6_yes (bl bx br : Nat) (A : Option Addr) (c : Nat) (l : List S40) (x : S26) (a0 a1 a2 a3 a4 a5 a6 : Value) (w : World) (hV : Vars w bl bx A l.length c x) (hbr : w.heap[br]? = some (.cells #[a0, a1, a2, a3, a4, a5, a6] 34 (0, 0)))
    (HR : Kd.C k40 w A l.length l) (hl : l.length < 4398046511102) (hr : rightB l = true) (hok : scanOk x = true) :
    Calls Try.prog 35 #[.pointer (some ⟨bx, 0, none⟩), .pointer (some ⟨bl, 0, none⟩), .pointer (some ⟨br, 0, none⟩)] w (ScanPost l x w br a0 a1 a2 a3 a5) := by
  have x3 := (blk_cell hV.x 3).trans rfl
  have x4 := (blk_cell hV.x 4).trans rfl
  have x5 := (blk_cell hV.x 5).trans rfl
  have x6 := (blk_cell hV.x 6).trans rfl
  have l0 := (blk_cell hV.l 0).trans rfl
  have HO := Aside0.mk hbr
  have HR0 := Aside0.mk HR
  have HK := Aside0.mk hr
  have HV := Aside0.mk hV
  unfold scanOk at hok
  rw [Bool.and_eq_true] at hok
  obtain ⟨k1, k2⟩ := hok
  have K1 := Aside0.mk k1
  simp only [decide_eq_true_eq] at k2
  clear hbr HR hr hV k1
  go_enter Try.func35, Try.ntmps35
  go_wp2_with fail
  refine (spanRight_calls _ _ _ _).mono ?_
  rintro e w1 ⟨he, hb⟩
  rw [K1.out] at he
  obtain rfl := he
  have HB1 := Aside0.mk hb
  have HV1 := Aside0.mk (HV.out.below hb)
  have y6 := (blk_cell HV1.out.x 6).trans rfl
  clear hb x3 x4 x5 x6 l0
  go_wp2_with fail
  refine (must_yes _ _).mono ?_
  rintro e w' ⟨rfl, rfl⟩
  have x3 := (blk_cell HV1.out.x 3).trans rfl
  have x4 := (blk_cell HV1.out.x 4).trans rfl
  have x5 := (blk_cell HV1.out.x 5).trans rfl
  have l0 := (blk_cell HV1.out.l 0).trans rfl
  go_wp2_with fail
  refine (Part_calls A c l _ _ _ _ (Kd.C_below HR0.out HB1.out) (by omega)).mono ?_
  rintro e w2 ⟨v, he, ho, hb⟩
  rw [if_pos HK.out] at ho
  obtain rfl := he
  obtain ⟨A1, c1, rfl, hc1, _⟩ := Kd.R_reads ho
  have HV2 := Aside0.mk (HV1.out.below hb)
  have HB2 := Aside0.mk (HB1.out.trans (hb.mono HB1.out.size))
  have HW := Aside0.mk (Kd.R_lower ho HB1.out.size)
  have HO2 := Aside0.mk (blk_below (blk_below HO.out HB1.out) hb)
  have z6 := (blk_cell HV2.out.x 6).trans rfl
  have r4 := (blk_cell HO2.out 4).trans rfl
  have r6 := (blk_cell HO2.out 6).trans rfl
  have f4 := blk_frozen HO2.out 4
  have f6 := blk_frozen HO2.out 6
  clear hb ho x3 x4 x5 l0 y6
  have es : l.filter (fun y => hasB x.f3.f0 x.f3.f1 x.f3.f2 y.f0) = scanAll l x := rfl
  rw [es] at HW hc1 ⊢
  clear es
  go_wp2
  · rename_i h
    go_end0
    have e1 : ((scanAll l x).take x.f4.toNat).length = x.f4.toNat := by rw [List.length_take]; omega
    unfold ScanPost
    rw [e1, decide_eq_true (by omega)]
    exact ⟨A1, c1, w2, rfl, HB2.out, by omega, by have q := Kd.R_take (m := x.f4.toNat) HW.out (by omega); exact q, ((Only.refl HO2.out).set 6 _).set 4 _⟩
  · rename_i h
    go_end0
    have e1 : (scanAll l x).take x.f4.toNat = scanAll l x := List.take_of_length_le (by omega)
    unfold ScanPost
    rw [e1, decide_eq_false (by omega)]
    exact ⟨A1, c1, w2, rfl, HB2.out, hc1, HW.out, ((Only.refl HO2.out).set 6 _).set 4 _⟩
end Go.Proofs.Ytcnmefocbjilbaa.G
namespace Go.Proofs.Ytcnmefocbjilbaa.G
open Go.RowKit Go.Proofs.YtcnmefocbjilbaaW.PrintWords Go.Proofs.YtcnmefocbjilbaaW.PrintLast Go.Proofs.YtcnmefocbjilbaaW.PrintMore
open Go.Proofs.YtcnmefocbjilbaaFlat
set_option maxHeartbeats 1000000

theorem do6_no (bl bx br : Nat) (A : Option Addr) (n c : Nat) (x : S26) (w : World) (hV : Vars w bl bx A n c x) (hok : scanOk x = false) :
    Calls Try.prog 35 #[.pointer (some ⟨bx, 0, none⟩), .pointer (some ⟨bl, 0, none⟩), .pointer (some ⟨br, 0, none⟩)] w fun e w' => e = .panicked [{ v := .iface 31 (.int .i64 2), recovered := false }] ∧ Below w.heap.size w w' := by
  have x3 := (blk_cell hV.x 3).trans rfl
  have x4 := (blk_cell hV.x 4).trans rfl
  have x5 := (blk_cell hV.x 5).trans rfl
  have x6 := (blk_cell hV.x 6).trans rfl
  have HV := Aside0.mk hV
  clear hV
  cases k1 : rangeB x.f3.f0 x.f3.f1 x.f3.f2 with
  | false =>
    have K1 := Aside0.mk k1
    clear k1 hok
    go_enter Try.func35, Try.ntmps35
    go_wp2_with fail
    refine (spanRight_calls _ _ _ _).mono ?_
    rintro e w1 ⟨he, hb⟩
    rw [K1.out] at he
    obtain rfl := he
    have HB1 := Aside0.mk hb
    clear hb x3 x4 x5 x6
    go_wp2_with fail
    refine (must_no _ _).mono ?_
    rintro e w' ⟨rfl, rfl⟩
    exact ⟨rfl, rfl, HB1.out⟩
  | true =>
    have k2 : x.f4 < 1 := by unfold scanOk at hok; rw [k1, Bool.true_and] at hok; simpa using hok
    have K1 := Aside0.mk k1
    clear k1 hok
    go_enter Try.func35, Try.ntmps35
    go_wp2_with fail
    refine (spanRight_calls _ _ _ _).mono ?_
    rintro e w1 ⟨he, hb⟩
    rw [K1.out] at he
    obtain rfl := he
    have HB1 := Aside0.mk hb
    have HV1 := Aside0.mk (HV.out.below hb)
    have y6 := (blk_cell HV1.out.x 6).trans rfl
    have k3 : decide (x.f4 ≥ 1) = false := decide_eq_false (by omega)
    have k4 : decide (1 ≤ x.f4) = false := decide_eq_false (by omega)
    clear hb x3 x4 x5 x6
    go_wp2_with fail
    refine (must_no _ _).mono ?_
    rintro e w' ⟨rfl, rfl⟩
    exact ⟨rfl, rfl, HB1.out⟩

/-- The reply that a panic leaves. -/
def refusal (what : Int) (e : Int) : Array Value := #[.int .i64 0, .int .u8 what, .int .i64 e, .int .u64 0, .bool false, .string ⟨#[]⟩, .slice none 0 0]

theorem asserted_errno (k : Int) (w : World) : (Instr.typeAssert (.iface 31 (.int .i64 k)) 20 31 true).run Try.prog w = .ok (.tuple #[.int .i64 k, .bool true]) w := by
  have hu : Try.prog.underlying 31 = some (.int .i64) := by kernel_rfl
  simp [Instr.typeAssert, run_underlying hu]
theorem asserted_none (w : World) : (Instr.typeAssert .nilIface 20 31 true).run Try.prog w = .ok (.tuple #[.int .i64 0, .bool false]) w := by
  have hu : Try.prog.underlying 31 = some (.int .i64) := by kernel_rfl
  have hz : (Try.prog.info? 31).map (·.zero) = some (some (.int .i64 0)) := by kernel_rfl
  obtain ⟨j, hj, hz⟩ := Option.map_eq_some_iff.mp hz
  have hz2 : Try.t31.zero = some (.int .i64 0) := by kernel_rfl
  simp [Instr.typeAssert, run_underlying hu, zeroValue, hj, hz, hz2]
theorem catch_panicking (bx br : Nat) (k : Int) (older : List PanicEntry) (x0 x1 x2 x3 x4 x5 x6 : Value) (what : Int) (w : World)
    (hx : w.cell? ⟨bx, 0, none⟩ = some (.int .u8 what)) (hr : w.heap[br]? = some (.cells #[x0, x1, x2, x3, x4, x5, x6] 34 (0, 0))) :
    CallsD Try.prog 25 #[.pointer (some ⟨bx, 0, none⟩), .pointer (some ⟨br, 0, none⟩)] (.panicking ({ v := .iface 31 (.int .i64 k), recovered := false } :: older)) w fun e u' w' =>
      e = .returned (.tuple #[]) ∧ u' = .panicking ({ v := .iface 31 (.int .i64 k), recovered := true } :: older) ∧ Only w w' br (refusal what k) 34 := by
  refine callsD_of_wpS Try.func25 rfl fun c₀ cs hu => ?_
  have e0 : ((#[.pointer (some ⟨bx, 0, none⟩), .pointer (some ⟨br, 0, none⟩)] : Array Value) ++ Array.replicate (Try.f25.ntmps - (#[.pointer (some ⟨bx, 0, none⟩), .pointer (some ⟨br, 0, none⟩)] : Array Value).size) undef) = #[.pointer (some ⟨bx, 0, none⟩), .pointer (some ⟨br, 0, none⟩), undef, undef, undef, undef, undef, undef, undef, undef, undef, undef, undef, undef] := rfl
  rw [e0]
  apply wpS_seq
  apply wpS_region
  simp [wpOpsS, go_sem, recoverD, hu, Try.ntmps25, Exit.thenS, asserted_errno]
  have hr2 := Aside0.mk hr
  have x0' := (blk_cell hr 0).trans rfl
  have x1' := (blk_cell hr 1).trans rfl
  have x2' := (blk_cell hr 2).trans rfl
  have x3' := (blk_cell hr 3).trans rfl
  have x4' := (blk_cell hr 4).trans rfl
  have x5' := (blk_cell hr 5).trans rfl
  have x6' := (blk_cell hr 6).trans rfl
  have f0' := blk_frozen hr 0
  have f1' := blk_frozen hr 1
  have f2' := blk_frozen hr 2
  have f3' := blk_frozen hr 3
  have f4' := blk_frozen hr 4
  have f5' := blk_frozen hr 5
  have f6' := blk_frozen hr 6
  clear hr
  apply wpS_seq
  apply wpS_region
  simp [wpOpsS, go_sem, Exit.thenS]
  refine wpS_cond (t := true) (by simp [Act.eval]) ?_
  simp only [if_true]
  refine wpS_of_wp ?_
  go_wp2
  have HF : Only w _ br (refusal what k) 34 := ((((((((Only.refl hr2.out).set 0 (.int .i64 0)).set 1 (.int .u8 what)).set 2 (.int .i64 k)).set 3 (.int .u64 0)).set 4 (.bool false)).set 5 (.string ⟨#[]⟩)).set 6 (.slice none 0 0))
  exact ⟨rfl, _, rfl, _, by simp [results, Try.results25], rfl, rfl, HF⟩

theorem catch_idle (bx br : Nat) (w : World) :
    CallsD Try.prog 25 #[.pointer (some ⟨bx, 0, none⟩), .pointer (some ⟨br, 0, none⟩)] .returning w fun e u' w' => e = .returned (.tuple #[]) ∧ u' = .returning ∧ w' = w := by
  refine callsD_of_wpS Try.func25 rfl fun c₀ cs hu => ?_
  have e0 : ((#[.pointer (some ⟨bx, 0, none⟩), .pointer (some ⟨br, 0, none⟩)] : Array Value) ++ Array.replicate (Try.f25.ntmps - (#[.pointer (some ⟨bx, 0, none⟩), .pointer (some ⟨br, 0, none⟩)] : Array Value).size) undef) = #[.pointer (some ⟨bx, 0, none⟩), .pointer (some ⟨br, 0, none⟩), undef, undef, undef, undef, undef, undef, undef, undef, undef, undef, undef, undef] := rfl
  rw [e0]
  apply wpS_seq
  apply wpS_region
  simp [wpOpsS, go_sem, recoverD, hu, Try.ntmps25, Exit.thenS, asserted_none]
  apply wpS_seq
  apply wpS_region
  simp [wpOpsS, go_sem, Exit.thenS]
  refine wpS_cond (t := false) (by simp [Act.eval]) ?_
  simp only [Bool.false_eq_true, if_false]
  refine wpS_of_wp (wp_skip ?_)
  cases c₀
  simp_all [bodyPostS, results, Try.results25]
end Go.Proofs.Ytcnmefocbjilbaa.G
namespace Go.Proofs.Ytcnmefocbjilbaa.G
open Go.RowKit Go.Proofs.YtcnmefocbjilbaaW.PrintWords Go.Proofs.YtcnmefocbjilbaaW.PrintLast Go.Proofs.YtcnmefocbjilbaaW.PrintMore
open Go.Proofs.YtcnmefocbjilbaaFlat
set_option maxHeartbeats 1000000

def hasKey (x : S26) : Bool := decide (2 ≤ x.f0) && decide (x.f0 ≤ 5)
def cellsC (x : S26) : Array Value := #[.int .u8 x.f0, .string x.f1, .string x.f2, .string x.f3.f0, .string x.f3.f1, .bool x.f3.f2, .int .i64 x.f4]
theorem key_calls (x : S26) (w : World) : Calls Try.prog 26 #[.agg (cellsC x)] w fun e w' => e = .returned (.tuple #[.bool (hasKey x), .bool (okCall x)]) ∧ Below w.heap.size w w' := by
  unfold cellsC hasKey okCall
  by_cases h1 : x.f1.toList = []
  · have h1b : (x.f1.toList != ([] : List UInt8)) = false := bne_eq_false_iff_eq.mpr h1
    have h1a : (x.f1.toList == ([] : List UInt8)) = true := beq_iff_eq.mpr h1
    have h1c : x.f1.toList.isEmpty = true := by rw [h1]; rfl
    clear h1
    rw [h1c]
    clear h1c
    go_enter Try.func26, Try.ntmps26
    go_wp2
    all_goals
      rename_i hq
      go_quiet (fail)
      go_wp2
      go_ret2
      refine ⟨by simp; try omega, pw_below_drewN ((Below.refl _ _).alloc (Nat.le_refl _) _) _⟩
  · have h1b : (x.f1.toList != ([] : List UInt8)) = true := bne_iff_ne.mpr h1
    have h1a : (x.f1.toList == ([] : List UInt8)) = false := beq_eq_false_iff_ne.mpr h1
    have h1c : x.f1.toList.isEmpty = false := by rw [List.isEmpty_eq_false_iff]; exact h1
    clear h1
    rw [h1c]
    clear h1c
    by_cases h2 : x.f1.size ≤ 512
    · have h2' : decide ((x.f1.size : Int) ≤ 512) = true := decide_eq_true (by omega)
      have h2'' : decide (x.f1.size ≤ 512) = true := decide_eq_true (by omega)
      by_cases h3 : x.f2.size ≤ 2048
      · have h3' : decide ((x.f2.size : Int) ≤ 2048) = true := decide_eq_true (by omega)
        go_enter Try.func26, Try.ntmps26
        go_wp2
        all_goals
          rename_i hq
          go_quiet (fail)
          go_wp2
          go_ret2
          refine ⟨by simp; try omega, pw_below_drewN ((Below.refl _ _).alloc (Nat.le_refl _) _) _⟩
      · have h3' : decide ((x.f2.size : Int) ≤ 2048) = false := decide_eq_false (by omega)
        go_enter Try.func26, Try.ntmps26
        go_wp2
        all_goals
          rename_i hq
          go_quiet (fail)
          go_wp2
          go_ret2
          refine ⟨by simp; try omega, pw_below_drewN ((Below.refl _ _).alloc (Nat.le_refl _) _) _⟩
    · have h2' : decide ((x.f1.size : Int) ≤ 512) = false := decide_eq_false (by omega)
      have h2'' : decide (x.f1.size ≤ 512) = false := decide_eq_false (by omega)
      go_enter Try.func26, Try.ntmps26
      go_wp2
      all_goals
        rename_i hq
        go_quiet (fail)
        go_wp2
        go_ret2
        refine ⟨by simp; try omega, pw_below_drewN ((Below.refl _ _).alloc (Nat.le_refl _) _) _⟩
end Go.Proofs.Ytcnmefocbjilbaa.G
