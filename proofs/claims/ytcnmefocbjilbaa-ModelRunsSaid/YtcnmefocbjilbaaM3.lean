/- Part of the seat's claims: model.Diff answers diffS; head answers true; how arguments read. -/
import Derived.Shelf.Sort.Plain
import Derived.Shelf.Slices.In.SortNone
import Derived.Shelf.Slices.CompactS
import Derived.Shelf.SlGeneric
import Derived.Shelf.Spec.SlicesGrow
import Derived.Test.YtcnmefocbjilbaaProg
import Derived.Test.YtcnmefocbjilbaaM2
import Derived.Sort.OwnSorted
import Derived.Sort.Grow
import Derived.Lib.OwnBridge
import Derived.Test.YtcnmefocbjilbaaM1
import Derived.Deep.SlicePairs
import Derived.ProofKit
import Derived.Lib.SmallJoins
set_option linter.unusedVariables false
set_option linter.unusedSimpArgs false
/-
  DERIVED: THE SHELF's CONTRACTS AT THIS DUMP, IN PLAIN WORDS (tools/lay-plain.mjs out of 'YtcnmefocbjilbaaShelf.lean', which tools/lay-shelf.mjs wrote): THE SAME DECLARATIONS UNDER THE SAME NAMES: 'import', 'namespace', 'open', 'def', 'theorem' AND NOTHING ELSE: no command of the shelf's: FOR A HAND-IN. Each laying: the table of numbers ('.._ren') and one theorem, a field a fact of the dump's own or the kernel's comparison; each contract: ONE APPLICATION.
-/
namespace Go.Proofs
open Go.Shelf
def Try.lays190_ren : Go.Shelf.Ren := ⟨fun | 190 => 45 | 125 => 58 | 258 => 57 | 128 => 71 | 129 => 72 | 302 => 62 | 303 => 63 | 304 => 64 | 305 => 65 | 306 => 66 | 307 => 67 | 308 => 68 | 309 => 69 | 310 => 70 | 333 => 75 | 329 => 76 | 330 => 77 | 334 => 78 | 335 => 79 | 336 => 80 | 344 => 81 | n => n, fun | 31 => 42 | 9 => 9 | 3 => 3 | 46 => 85 | 0 => 0 | 51 => 102 | 53 => 32 | 4 => 4 | 183 => 94 | 182 => 93 | 131 => 99 | 5 => 5 | 218 => 104 | 222 => 108 | 228 => 110 | 229 => 111 | n => n, fun | n => n⟩
theorem Try.lays190 : Go.Proofs.Lays.n190 Try.prog Try.lays190_ren := {
  mixed := by kernel_rfl
  f125 := Try.func58.trans (congrArg some (by kernel_rfl))
  f128 := Try.func71.trans (congrArg some (by kernel_rfl))
  f129 := Try.func72.trans (congrArg some (by kernel_rfl))
  f190 := Try.func45.trans (congrArg some (by kernel_rfl))
  f258 := Try.func57.trans (congrArg some (by kernel_rfl))
  f302 := Try.func62.trans (congrArg some (by kernel_rfl))
  f303 := Try.func63.trans (congrArg some (by kernel_rfl))
  f304 := Try.func64.trans (congrArg some (by kernel_rfl))
  f305 := Try.func65.trans (congrArg some (by kernel_rfl))
  f306 := Try.func66.trans (congrArg some (by kernel_rfl))
  f307 := Try.func67.trans (congrArg some (by kernel_rfl))
  f308 := Try.func68.trans (congrArg some (by kernel_rfl))
  f309 := Try.func69.trans (congrArg some (by kernel_rfl))
  f310 := Try.func70.trans (congrArg some (by kernel_rfl))
  f329 := Try.func76.trans (congrArg some (by kernel_rfl))
  f330 := Try.func77.trans (congrArg some (by kernel_rfl))
  f333 := Try.func75.trans (congrArg some (by kernel_rfl))
  f334 := Try.func78.trans (congrArg some (by kernel_rfl))
  f335 := Try.func79.trans (congrArg some (by kernel_rfl))
  f336 := Try.func80.trans (congrArg some (by kernel_rfl))
  f344 := Try.func81.trans (congrArg some (by kernel_rfl))
  t0 := Try.underlying0
  a0 := Try.isAgg0
  z0 := Try.sizeOf0
  v0 := Try.zeroValue0
  t3 := Try.underlying3
  a3 := Try.isAgg3
  z3 := Try.sizeOf3
  v3 := Try.zeroValue3
  t4 := Try.underlying4
  a4 := Try.isAgg4
  z4 := Try.sizeOf4
  v4 := Try.zeroValue4
  t5 := Try.underlying5
  a5 := Try.isAgg5
  z5 := Try.sizeOf5
  v5 := Try.zeroValue5
  t9 := Try.underlying9
  a9 := Try.isAgg9
  z9 := Try.sizeOf9
  v9 := Try.zeroValue9
  t31 := Try.underlying42
  a31 := Try.isAgg42
  z31 := Try.sizeOf42
  v31 := Try.zeroValue42
  t46 := Try.underlying85
  a46 := Try.isAgg85
  z46 := Try.sizeOf85
  v46 := Try.zeroValue85
  t51 := Try.underlying102
  a51 := Try.isAgg102
  z51 := Try.sizeOf102
  v51 := Try.zeroValue102
  t53 := Try.underlying32
  a53 := Try.isAgg32
  z53 := Try.sizeOf32
  v53 := Try.zeroValue32
  t131 := Try.underlying99
  a131 := Try.isAgg99
  z131 := Try.sizeOf99
  v131 := Try.zeroValue99
  t182 := Try.underlying93
  a182 := Try.isAgg93
  z182 := Try.sizeOf93
  v182 := Try.zeroValue93
  t183 := Try.underlying94
  a183 := Try.isAgg94
  z183 := Try.sizeOf94
  v183 := Try.zeroValue94
  t218 := Try.underlying104
  a218 := Try.isAgg104
  z218 := Try.sizeOf104
  v218 := Try.zeroValue104
  t222 := Try.underlying108
  a222 := Try.isAgg108
  z222 := Try.sizeOf108
  v222 := Try.zeroValue108
  t228 := Try.underlying110
  a228 := Try.isAgg110
  z228 := Try.sizeOf110
  v228 := Try.zeroValue110
  t229 := Try.underlying111
  a229 := Try.isAgg111
  z229 := Try.sizeOf111
  v229 := Try.zeroValue111 }
open Go.Sort Go.RowKit in
theorem Try.slices_Sort_string (blk off cap : Nat) (ss : List (List UInt8)) (w : World) (hH : Holds encStr w blk off ss.toArray) (hblk : blk < w.heap.size) (hsz : ss.length < 4611686018427387904) :
    Calls Try.prog 45 #[.slice (some ⟨blk, off, none⟩) ss.length cap] w fun e w' =>
      e = .returned (.tuple #[]) ∧ ∃ n os, w' = grow (putRow encStr (Sort.ahead w n) blk off (ss.mergeSort fun x y => decide (x ≤ y)).toArray) os := Any.slices_Sort_string Try.lays190 blk off cap ss w hH hblk hsz
theorem Try.slices_Sort_string_none (p : Option Addr) (cap : Nat) (w : World) :
    Calls Try.prog 45 #[.slice p 0 cap] w fun e w' => e = .returned (.tuple #[]) ∧ w' = w := Any.slices_Sort_string_none Try.lays190 p cap w
def Try.lays194_ren : Go.Shelf.Ren := ⟨fun | 194 => 46 | n => n, fun | 31 => 42 | 9 => 9 | 3 => 3 | 4 => 4 | 0 => 0 | n => n, fun | n => n⟩
theorem Try.lays194 : Go.Proofs.Lays.n194 Try.prog Try.lays194_ren := {
  mixed := by kernel_rfl
  f194 := Try.func46.trans (congrArg some (by kernel_rfl))
  t0 := Try.underlying0
  a0 := Try.isAgg0
  z0 := Try.sizeOf0
  v0 := Try.zeroValue0
  t3 := Try.underlying3
  a3 := Try.isAgg3
  z3 := Try.sizeOf3
  v3 := Try.zeroValue3
  t4 := Try.underlying4
  a4 := Try.isAgg4
  z4 := Try.sizeOf4
  v4 := Try.zeroValue4
  t9 := Try.underlying9
  a9 := Try.isAgg9
  z9 := Try.sizeOf9
  v9 := Try.zeroValue9
  t31 := Try.underlying42
  a31 := Try.isAgg42
  z31 := Try.sizeOf42
  v31 := Try.zeroValue42 }
open Go.Sort Go.RowKit in
theorem Try.slices_Compact_string (blk off cap : Nat) (zs : List (List UInt8)) (w : World) (hH : Holds encStr w blk off zs.toArray) (hsz : zs.length ≤ 9223372036854775807) (hcap : zs.length ≤ cap) :
    Calls Try.prog 46 #[.slice (some ⟨blk, off, none⟩) zs.length cap] w fun e w' => e = .returned (.slice (some ⟨blk, off, none⟩) (Lib.compact zs).length cap) ∧ ∃ q, w' = putRow encStr (Sort.ahead w q) blk off (Lib.compact zs ++ List.replicate (zs.length - (Lib.compact zs).length) []).toArray := Any.slices_Compact_string Try.lays194 blk off cap zs w hH hsz hcap
theorem Try.slices_Compact_string_empty (a : Option Addr) (cap : Nat) (w : World) :
    Calls Try.prog 46 #[.slice a 0 cap] w fun e w' => e = .returned (.slice a 0 cap) ∧ w' = w := Any.slices_Compact_string_empty Try.lays194 a cap w
def Try.growC_ren : Go.Shelf.Ren := ⟨fun | 4 => 56 | n => n, fun | 22 => 22 | 25 => 40 | 3 => 3 | 4 => 4 | 9 => 9 | 20 => 20 | 0 => 0 | n => n, fun | n => n⟩
theorem Try.growC : Go.Proofs.Lays8.n4 Try.prog Try.growC_ren := {
  mixed := by kernel_rfl
  f4 := ⟨Try.f56.name, by decide, Try.func56.trans (congrArg some (by kernel_rfl))⟩
  t0 := Try.underlying0
  a0 := Try.isAgg0
  z0 := Try.sizeOf0
  v0 := Try.zeroValue0
  t3 := Try.underlying3
  a3 := Try.isAgg3
  z3 := Try.sizeOf3
  v3 := Try.zeroValue3
  t4 := Try.underlying4
  a4 := Try.isAgg4
  z4 := Try.sizeOf4
  v4 := Try.zeroValue4
  t9 := Try.underlying9
  a9 := Try.isAgg9
  z9 := Try.sizeOf9
  v9 := Try.zeroValue9
  t20 := Try.underlying20
  a20 := Try.isAgg20
  z20 := Try.sizeOf20
  v20 := Try.zeroValue20
  t22 := Try.underlying22
  a22 := Try.isAgg22
  z22 := Try.sizeOf22
  v22 := Try.zeroValue22 }
end Go.Proofs
namespace Go.Proofs.Ytcnmefocbjilbaa.G
open Go.RowKit Go.Proofs.YtcnmefocbjilbaaW.PrintWords Go.Proofs.YtcnmefocbjilbaaW.PrintLast Go.Proofs.YtcnmefocbjilbaaW.PrintMore
open Go.Proofs.YtcnmefocbjilbaaFlat
set_option maxHeartbeats 1000000
set_option maxRecDepth 20000

/-- slices.Grow(nil, n): an empty row of one's own. -/
theorem Grow_calls (n : Nat) (hn : n < 4398046511104) (w : World) : Calls Try.prog 56 #[.slice none 0 0, .int .i64 n] w (ClonePost [] w) := by
  obtain ⟨i0, hi, hz0, hz1, hz2⟩ := info_parts info40
  by_cases h0 : n = 0
  · have h := Any8.slices_Grow_room Try.growC none 0 0 n w (Nat.le_refl _) (by omega) (by omega) (by omega)
    change Calls Try.prog 56 _ _ _ at h
    refine h.mono ?_
    rintro e w' ⟨rfl, rfl⟩
    exact ⟨_, rfl, Kd.R_nil k40 40 _ _ _, Below.refl _ _⟩
  · have h := Any8.slices_Grow_grow Try.growC i0 _ hi hz0 (by rw [hz1]; decide) none 0 0 n [] w (Nat.le_refl _) (by omega) (by rw [hz2]; omega) (by omega) (by simp) (fun _ => rfl) (fun a h => by cases h)
    change Calls Try.prog 56 _ _ _ at h
    refine h.mono ?_
    rintro e w' ⟨rfl, rfl⟩
    have hg := grownCap_ge w (0 + n) 0 40
    have hm := grownCap_le_maxLen w (0 + n) 0 40 (by simp only [maxLen]; omega)
    refine ⟨_, rfl, own_of_flat (xs := []) ⟨rfl, .inr ⟨w.heap.size, _, _, rfl, Nat.le_refl _, heap_new w.drew _, Nat.zero_le _, hm, ?_, ?_⟩⟩, below_alloc (below_drew (Below.refl _ _)) _⟩
    · have hg2 : 0 + n ≤ grownCap w (0 + n) 0 (Try.growC_ren.t 25) := hg
      simp [Builtin.zeroCells, Value.cells] at hg2 ⊢
      omega
    · simp [flat40]

/-- slices.Concat of two rows. -/
theorem Concat_calls (g : Nat) (A B : Option Addr) (c d : Nat) (xs ys : List S40) (w : World) (h0 : w.cell? ⟨g, 0, none⟩ = some (.slice A xs.length c)) (h1 : w.cell? ⟨g, 1, none⟩ = some (.slice B ys.length d)) (HX : Kd.C k40 w A xs.length xs) (HY : Kd.C k40 w B ys.length ys) (hx : xs.length < 1099511627776) (hy : ys.length < 1099511627776) :
    Calls Try.prog 44 #[.slice (some ⟨g, 0, none⟩) 2 2] w (ClonePost (xs ++ ys) w) := by
  have H0 := Aside0.mk h0
  have H1 := Aside0.mk h1
  have HX0 := Aside0.mk HX
  have HY0 := Aside0.mk HY
  clear h0 h1 HX HY
  go_enter Try.func44, Try.ntmps44
  go_wp2
  go_loopw [3, 11] (fun v3 v11 w' => ∃ (k n : Nat), k ≤ 2 ∧ v11 = .int .i64 k ∧ v3 = .int .i64 n ∧ Aside0 (n = (([xs, ys].take k).flatten).length) ∧ Aside0 (Below w.heap.size w w')) (fun _ v11 _ => 2 - (intOf v11).toNat)
  case atStart => exact ⟨0, 0, by omega, rfl, rfl, ⟨rfl⟩, ⟨Below.refl _ _⟩⟩
  case round =>
    obtain ⟨k, n, hk, rfl, rfl, HN, HB⟩ := hrel
    have hb := HB.out
    have g0 := pw_cell_below hb H0.out
    have g1 := pw_cell_below hb H1.out
    clear hb
    obtain rfl | rfl | rfl : k = 0 ∨ k = 1 ∨ k = 2 := by omega
    · obtain rfl : n = 0 := HN.out
      go_wp2
      go_roundw
      case rel => exact ⟨1, xs.length, by omega, rfl, by go_num, ⟨by simp⟩, HB⟩
      case measure => simp [intOf]
    · obtain rfl : n = xs.length := by have := HN.out; simpa using this
      go_wp2
      go_roundw
      case rel => exact ⟨2, xs.length + ys.length, by omega, rfl, by go_num, ⟨by simp⟩, HB⟩
      case measure => simp [intOf]
    · obtain rfl : n = xs.length + ys.length := by have := HN.out; simpa using this
      go_wp2_with fail
      rw [← Int.natCast_add]
      refine (Grow_calls (xs.length + ys.length) (by omega) wr).mono ?_
      rintro e w2 ⟨v, rfl, ho, hb⟩
      have HB2 := Aside0.mk (HB.out.trans (hb.mono HB.out.size))
      have HO2 := Aside0.mk (Kd.R_lower ho HB.out.size)
      clear hb ho g0 g1 HB
      go_wp2_with fail
      go_loopw [6, 27] (fun v6 v27 w' => ∃ (k : Nat), k ≤ 2 ∧ v27 = .int .i64 k ∧ Aside0 (Own w' w.heap.size v6 (([xs, ys].take k).flatten)) ∧ Aside0 (Below w.heap.size w w')) (fun _ v27 _ => 2 - (intOf v27).toNat)
      case atStart => exact ⟨0, by omega, rfl, HO2, HB2⟩
      case round =>
        obtain ⟨k, hk, rfl, HO, HB⟩ := hrel
        have hb := HB.out
        have g0 := pw_cell_below hb H0.out
        have g1 := pw_cell_below hb H1.out
        clear hb
        obtain rfl | rfl | rfl : k = 0 ∨ k = 1 ∨ k = 2 := by omega
        · have HL := Aside0.mk (show ([] : List S40).length + xs.length < 4398046511104 by first | omega | (simp; omega))
          have HO1 := Aside0.mk (show Own wr w.heap.size u6 [] by have h := HO.out; simpa using h)
          go_wp2_with (at_builtin; go_must (refine appAll (w0 := w) w.heap.size rfl (.tmp 31) (.tmp 32) rfl u6 [] xs A c rfl rfl HO1.out (Kd.C_below HX0.out HB.out) HB.out HB.out.size HL.out ?_); intro v1 w3 h1 h2 h3)
          go_roundw
          case rel => exact ⟨1, by omega, by go_num, ⟨by simpa using h1⟩, ⟨h2⟩⟩
          case measure => simp [intOf]
        · have HL := Aside0.mk (show (xs : List S40).length + ys.length < 4398046511104 by first | omega | (simp; omega))
          have HO1 := Aside0.mk (show Own wr w.heap.size u6 xs by have h := HO.out; simpa using h)
          go_wp2_with (at_builtin; go_must (refine appAll (w0 := w) w.heap.size rfl (.tmp 31) (.tmp 32) rfl u6 xs ys B d rfl rfl HO1.out (Kd.C_below HY0.out HB.out) HB.out HB.out.size HL.out ?_); intro v1 w3 h1 h2 h3)
          go_roundw
          case rel => exact ⟨2, by omega, by go_num, ⟨by simpa using h1⟩, ⟨h2⟩⟩
          case measure => simp [intOf]
        · go_wp2_with fail
          go_ret
          exact ⟨_, rfl, by have h := HO.out; simpa using h, HB.out⟩
end Go.Proofs.Ytcnmefocbjilbaa.G
namespace Go.Proofs.Ytcnmefocbjilbaa.G
open Go.RowKit Go.Proofs.YtcnmefocbjilbaaW.PrintWords Go.Proofs.YtcnmefocbjilbaaW.PrintLast Go.Proofs.YtcnmefocbjilbaaW.PrintMore
open Go.Proofs.YtcnmefocbjilbaaFlat
open Go.Sort
set_option maxHeartbeats 1000000
set_option maxRecDepth 20000

def sorted (ss : List (List UInt8)) : List (List UInt8) := ss.mergeSort fun x y => decide (x ≤ y)
/-- A row of strings that the call owns. -/
def OwnS (w : World) (base : Nat) (v : Value) (ss : List (List UInt8)) : Prop := w.ownsRow base 9 1 v ss.length (ss.map encStr)
theorem ownS_nil (w : World) (base : Nat) : OwnS w base (.slice none 0 0) [] := ⟨rfl, .inl ⟨rfl, rfl⟩⟩
theorem ownS_below {w w' : World} {base : Nat} {v : Value} {ss : List (List UInt8)} (h : OwnS w base v ss) (hb : Below w.heap.size w w') : OwnS w' base v ss := own_move h (fun k hk => hb.block k (own_lt h k hk))
theorem ownS_slice {w : World} {base : Nat} {v : Value} {ss : List (List UInt8)} (h : OwnS w base v ss) : ∃ A c, v = .slice A ss.length c := by
  rcases h.2 with ⟨rfl, h0⟩ | ⟨g, cap, cur, rfl, _⟩
  · exact ⟨none, 0, by rw [h0]⟩
  · exact ⟨some ⟨g, 0, none⟩, cap, rfl⟩
def SortPost (ss : List (List UInt8)) (v : Value) (base : Nat) (w0 : World) (e : Ending) (w' : World) : Prop := e = .returned (.tuple #[]) ∧ OwnS w' base v (sorted ss) ∧ Below base w0 w'
theorem sorted_length (ss : List (List UInt8)) : (sorted ss).length = ss.length := List.length_mergeSort ss
/-- slices.Sort at a row of strings of the call's own. -/
theorem SortS_calls (ss : List (List UInt8)) (v : Value) (base : Nat) (w0 w : World) (ho : OwnS w base v ss) (hb : Below base w0 w) (hbase : base ≤ w.heap.size) (hl : ss.length < 4611686018427387904) :
    Calls Try.prog 45 #[v] w (SortPost ss v base w0) := by
  by_cases h0 : v = .slice none 0 0
  · subst h0
    have hs : ss = [] := by
      rcases ho.2 with ⟨_, h⟩ | ⟨g, cap, cur, h, _⟩
      · exact List.length_eq_zero_iff.1 h
      · cases h
    subst hs
    refine (Go.Proofs.Try.slices_Sort_string_none none 0 w).mono ?_
    rintro e w' ⟨rfl, rfl⟩
    exact ⟨rfl, by simpa [sorted] using ownS_nil _ base, hb⟩
  · obtain ⟨g, cap, rfl, hbg, hgl, hncap, hcm, hlen, hH⟩ := Lib.holds_of_ownsRow ho h0
    refine (Go.Proofs.Try.slices_Sort_string g 0 cap ss w hH hgl hl).mono ?_
    rintro e w' ⟨rfl, nn, os, rfl⟩
    rcases ho.2 with ⟨h0, _⟩ | ⟨g', cap', cur, hv, hbase', hbk, h1, h2, h3, h4⟩
    · cases h0
    cases hv
    have hs := ownsRow_sorted (n := nn) (os := os) (ts := sorted ss) (sorted_length ss) hbase' hbk h1 h2 h3
    refine ⟨rfl, ?_, hb.grown (grownBy_sorted _) hbase (fun j hj => by cases hj; exact hbase')⟩
    unfold OwnS
    rw [sorted_length]
    exact hs
def CompactPost (ss : List (List UInt8)) (base : Nat) (w0 : World) (e : Ending) (w' : World) : Prop := ∃ v, e = .returned v ∧ OwnS w' base v (Lib.compact ss) ∧ Below base w0 w'
theorem CompactS_calls (ss : List (List UInt8)) (v : Value) (base : Nat) (w0 w : World) (ho : OwnS w base v ss) (hb : Below base w0 w) (hbase : base ≤ w.heap.size) (hl : ss.length < 4611686018427387904) :
    Calls Try.prog 46 #[v] w (CompactPost ss base w0) := by
  by_cases h0 : v = .slice none 0 0
  · subst h0
    have hs : ss = [] := by
      rcases ho.2 with ⟨_, h⟩ | ⟨g, cap, cur, h, _⟩
      · exact List.length_eq_zero_iff.1 h
      · cases h
    subst hs
    refine (Go.Proofs.Try.slices_Compact_string_empty none 0 w).mono ?_
    rintro e w' ⟨rfl, rfl⟩
    exact ⟨_, rfl, ownS_nil _ base, hb⟩
  · obtain ⟨g, cap, rfl, hbg, hgl, hncap, hcm, hlen, hH⟩ := Lib.holds_of_ownsRow ho h0
    refine (Go.Proofs.Try.slices_Compact_string g 0 cap ss w hH (by omega) hncap).mono ?_
    rintro e w' ⟨rfl, q, rfl⟩
    have hle := Lib.compact_length_le ss
    have hc := Lib.ownsRow_putRow (q := q) (k := (Lib.compact ss).length) (ys := Lib.compact ss ++ List.replicate (ss.length - (Lib.compact ss).length) []) ho (by simp; omega) (by omega)
    rw [List.take_left] at hc
    exact ⟨_, rfl, hc, Lib.below_putRow hb hbg⟩
end Go.Proofs.Ytcnmefocbjilbaa.G
namespace Go.Proofs.Ytcnmefocbjilbaa.G
open Go.RowKit Go.Proofs.YtcnmefocbjilbaaW.PrintWords Go.Proofs.YtcnmefocbjilbaaW.PrintLast Go.Proofs.YtcnmefocbjilbaaW.PrintMore
open Go.Proofs.YtcnmefocbjilbaaFlat
set_option maxHeartbeats 1000000
set_option maxRecDepth 20000

abbrev OwnB (w : World) (base : Nat) (v : Value) (xs : List ByteArray) : Prop := Kd.R Kd.string 9 w base (fun _ => True) v xs
section
variable {ops : Array Oper} {o : Oper} {a : Act} {rest : List Oper} {Q : Exit → Act → World → Prop}
theorem app1B {w0 W : World} (base : Nat) (hgd : o.guard = none) (s x : Operand) (ho : o.op = .call { callee := .builtin .append, args := #[s, x], argTypes := #[42, 42] })
    (v : Value) (xs : List ByteArray) (p : ByteArray) (hs : a.eval s = v) (hx : a.eval x = .slice (some ⟨W.heap.size, 0, none⟩) 1 1) (HO : OwnB W base v xs) (HB : Below base w0 W) (hbase : base ≤ W.heap.size) (hl : xs.length < 4398046511103)
    (h : ∀ v1 w1, OwnB w1 base v1 (xs ++ [p]) → Below base w0 w1 → base ≤ w1.heap.size → wpList Try.prog ops Q rest (a.put o.dst v1) w1) :
    wpList Try.prog ops Q (o :: rest) a (W.alloc (.cells #[.string p] 9 (0, 0))) := by
  refine Kd.R_append Kd.string (w0 := w0) base hgd s x 42 9 (.string ⟨#[]⟩) 16 ho Try.underlying42 info9 rfl (by decide) (by omega) v xs p [.string p] (fun _ => True) (fun _ => False) hs hx rfl (fun _ hk => hk.elim) (fun _ _ => trivial) HO HB hbase (by omega) ?_
  intro v1 w1 h1 h2 h3 h4
  exact h v1 w1 h1 h2 (Nat.le_trans hbase h3.size)
end
theorem ownS_of {w : World} {base : Nat} {v : Value} {xs : List ByteArray} (h : OwnB w base v xs) : OwnS w base v (xs.map (·.data.toList)) := by
  have h1 := Kd.own_of_R h
  unfold OwnS
  rw [Lib.map_encStr, List.length_map]
  exact h1

/-! ### what Diff tells -/
def unlike (a b : List S40) (c : S40) : Bool := decide (findV a c.f0 ≠ findV b c.f0)
def diffK (a b : List S40) : List ByteArray := ((a ++ b).filter (unlike a b)).map (·.f0)
def diffS (a b : List S40) : List (List UInt8) := if rightB a = true ∧ rightB b = true then Lib.compact (sorted ((diffK a b).map (·.data.toList))) else []
theorem flen2 {l : List S40} (f : S40 → Bool) (k : Nat) : ((l.take k).filter f).length ≤ l.length := by
  have h1 := List.length_filter_le f (l.take k)
  have h2 := List.length_take_le k l
  rw [List.length_take] at h1
  omega
theorem unlike_is (a b : List S40) (c : S40) : unlike a b c = (!(((findV a c.f0).getD ⟨#[]⟩).toList == ((findV b c.f0).getD ⟨#[]⟩).toList) || ((findV a c.f0).isSome != (findV b c.f0).isSome)) := by
  unfold unlike
  cases findV a c.f0 with
  | none =>
    cases findV b c.f0 with
    | none => simp
    | some y => simp
  | some x =>
    cases findV b c.f0 with
    | none => simp
    | some y =>
      by_cases h : x = y
      · subst h; simp
      · have h2 : (x.toList == y.toList) = false := beq_eq_false_iff_ne.mpr (fun e => h (tl_inj e))
        simp [h, h2]
def DiffPost (a b : List S40) (w : World) (e : Ending) (w' : World) : Prop := ∃ v, e = .returned v ∧ OwnS w' w.heap.size v (diffS a b) ∧ Below w.heap.size w w'

theorem Diff_wrong (A B : Option Addr) (c d : Nat) (l m : List S40) (w : World) (HL : Kd.C k40 w A l.length l) (HM : Kd.C k40 w B m.length m) (h : ¬ (rightB l = true ∧ rightB m = true)) :
    Calls Try.prog 17 #[.slice A l.length c, .slice B m.length d] w (DiffPost l m w) := by
  have HL0 := Aside0.mk HL
  have HM0 := Aside0.mk HM
  have HE := Aside0.mk (show diffS l m = [] by unfold diffS; rw [if_neg h])
  have HH := Aside0.mk h
  clear HL HM h
  cases hr : rightB l with
  | false =>
    have HK := Aside0.mk hr
    clear hr
    go_enter Try.func17, Try.ntmps17
    go_wp2_with fail
    refine (cells_Right_calls A c l _ HL0.out).mono ?_
    rintro e w1 ⟨he, hb⟩
    rw [HK.out] at he
    obtain rfl := he
    have HB := Aside0.mk hb
    clear hb
    go_wp2
    go_ret
    exact ⟨_, rfl, by rw [HE.out]; exact ownS_nil _ _, HB.out⟩
  | true =>
    have HK := Aside0.mk hr
    have HK2 := Aside0.mk (show rightB m = false by cases h : rightB m with
      | false => rfl
      | true => exact absurd ⟨hr, h⟩ HH.out)
    clear hr
    go_enter Try.func17, Try.ntmps17
    go_wp2_with fail
    refine (cells_Right_calls A c l _ HL0.out).mono ?_
    rintro e w1 ⟨he, hb⟩
    rw [HK.out] at he
    obtain rfl := he
    have HB := Aside0.mk hb
    clear hb
    go_wp2_with fail
    refine (cells_Right_calls B d m _ (Kd.C_below HM0.out HB.out)).mono ?_
    rintro e w2 ⟨he, hb⟩
    rw [HK2.out] at he
    obtain rfl := he
    have HB2 := Aside0.mk (HB.out.trans (hb.mono HB.out.size))
    clear hb
    go_wp2
    go_ret
    exact ⟨_, rfl, by rw [HE.out]; exact ownS_nil _ _, HB2.out⟩
theorem Diff_right (A B : Option Addr) (c d : Nat) (l m : List S40) (w : World) (HL : Kd.C k40 w A l.length l) (HM : Kd.C k40 w B m.length m) (hl : l.length < 1099511627776) (hm : m.length < 1099511627776) (h1 : rightB l = true) (h2 : rightB m = true) :
    Calls Try.prog 17 #[.slice A l.length c, .slice B m.length d] w (DiffPost l m w) := by
  have HL0 := Aside0.mk HL
  have HM0 := Aside0.mk HM
  have HK := Aside0.mk h1
  have HK2 := Aside0.mk h2
  clear HL HM h1 h2
  go_enter Try.func17, Try.ntmps17
  go_wp2_with fail
  refine (cells_Right_calls A c l _ HL0.out).mono ?_
  rintro e w1 ⟨he, hb⟩
  rw [HK.out] at he
  obtain rfl := he
  have HB := Aside0.mk hb
  clear hb
  go_wp2_with fail
  refine (cells_Right_calls B d m _ (Kd.C_below HM0.out HB.out)).mono ?_
  rintro e w2 ⟨he, hb⟩
  rw [HK2.out] at he
  obtain rfl := he
  have HB2 := Aside0.mk (HB.out.trans (hb.mono HB.out.size))
  clear hb HB
  go_wp2_with fail
  refine (Concat_calls w2.heap.size A B c d l m _ ((blk_cell (heap_new w2 _) 0).trans rfl) ((blk_cell (heap_new w2 _) 1).trans rfl) (Kd.C_alloc (Kd.C_below HL0.out HB2.out) _) (Kd.C_alloc (Kd.C_below HM0.out HB2.out) _) hl hm).mono ?_
  rintro e w3 ⟨v3, rfl, ho, hb⟩
  have hlen : (l ++ m).length < 2199023255552 := by rw [List.length_append]; omega
  generalize hcat : l ++ m = cat at ho hlen
  have HCAT := Aside0.mk hcat
  clear hcat
  obtain ⟨AC, cc, rfl, _, hC⟩ := Kd.R_reads ho
  have HC := Aside0.mk hC
  have HB3 := Aside0.mk ((below_alloc HB2.out (.cells #[.slice A l.length c, .slice B m.length d] 22 (0, 0))).trans (hb.mono (by have := HB2.out.size; simp; omega)))
  clear hb ho hC HB2
  go_wp2_with fail
  go_loopw [5, 25] (fun v5 v25 w' => ∃ k : Nat, k ≤ cat.length ∧ v25 = .int .i64 k ∧ Aside0 (OwnB w' w3.heap.size v5 (((cat.take k).filter (unlike l m)).map (·.f0))) ∧ Aside0 (Below w3.heap.size w3 w')) (fun _ v25 _ => cat.length - (intOf v25).toNat)
  case atStart => exact ⟨0, by omega, rfl, ⟨by simpa using Kd.R_nil Kd.string 9 w3 w3.heap.size (fun _ => True)⟩, ⟨Below.refl _ _⟩⟩
  case round =>
    obtain ⟨k, hk, rfl, HO, HB⟩ := hrel
    by_cases hlt : k < cat.length
    · obtain ⟨ad, rfl, hx0, hx1⟩ := at_T40 HC.out k (by omega) (by omega)
      replace hx0 := pw_cell_below HB.out hx0
      replace hx1 := pw_cell_below HB.out hx1
      simp only [Int.toNat_natCast] at hx0 hx1
      have HSN := Aside0.mk (take_snoc40 cat k hlt)
      go_wp2_with fail
      have HB4 := Aside0.mk (below_alloc HB.out (.cells #[.string (rd_T40 cat k).f0, .string (rd_T40 cat k).f1] 40 (0, 0)))
      refine (Find_calls A c l (rd_T40 cat k).f0 _ (Kd.C_below HL0.out (HB3.out.trans (HB4.out.mono HB3.out.size))) (by omega)).mono ?_
      rintro e w4 ⟨rfl, hb⟩
      have c0 := pw_cell_below hb (cell_new2 wr #[.string (rd_T40 cat k).f0, .string (rd_T40 cat k).f1] 40 0 _ rfl)
      have HB5 := Aside0.mk (HB4.out.trans (hb.mono HB4.out.size))
      have HO5 := Aside0.mk (Kd.R_below (Kd.R_alloc HO.out (.cells #[.string (rd_T40 cat k).f0, .string (rd_T40 cat k).f1] 40 (0, 0))) hb)
      clear hb hx0 hx1
      go_wp2_with fail
      refine (Find_calls B d m (rd_T40 cat k).f0 _ (Kd.C_below HM0.out (HB3.out.trans (HB5.out.mono HB3.out.size))) (by omega)).mono ?_
      rintro e w5 ⟨rfl, hb⟩
      replace c0 := pw_cell_below hb c0
      have HB6 := Aside0.mk (HB5.out.trans (hb.mono HB5.out.size))
      have HO6 := Aside0.mk (Kd.R_below HO5.out hb)
      clear hb HB5 HO5 HB4
      have HU := Aside0.mk (unlike_is l m (rd_T40 cat k))
      cases hi : (findV l (rd_T40 cat k).f0).isSome
      all_goals cases hj : (findV m (rd_T40 cat k).f0).isSome
      all_goals cases hs : (((findV l (rd_T40 cat k).f0).getD ⟨#[]⟩).toList == ((findV m (rd_T40 cat k).f0).getD ⟨#[]⟩).toList)
      · have hs2 : (((findV l (rd_T40 cat k).f0).getD ⟨#[]⟩).toList != ((findV m (rd_T40 cat k).f0).getD ⟨#[]⟩).toList) = true := by simp only [bne, hs]; rfl
        have HU2 := Aside0.mk (show unlike l m (rd_T40 cat k) = true by rw [HU.out, hs, hi, hj]; rfl)
        have HF := Aside0.mk (show (((cat.take k).filter (unlike l m)).map (·.f0)).length < 4398046511103 by
          rw [List.length_map]
          have := flen2 (l := cat) (unlike l m) k
          omega)
        clear hi hj
        go_wp2_with (at_builtin; go_must (refine app1B (w0 := w3) w3.heap.size rfl (.tmp 51) (.tmp 54) rfl u5 (((cat.take k).filter (unlike l m)).map (·.f0)) (rd_T40 cat k).f0 rfl rfl HO6.out HB6.out HB6.out.size HF.out ?_); intro v1 w6 h1 h2 h3)
        go_roundw
        case rel => exact ⟨k + 1, by omega, by go_num, ⟨by
          rw [HSN.out, List.filter_append, List.filter_cons_of_pos (by rw [HU2.out]), List.filter_nil, List.map_append]
          exact h1⟩, ⟨h2⟩⟩
        case measure => simp [intOf]; omega
      · have hs2 : (((findV l (rd_T40 cat k).f0).getD ⟨#[]⟩).toList != ((findV m (rd_T40 cat k).f0).getD ⟨#[]⟩).toList) = false := by simp only [bne, hs]; rfl
        have HU2 := Aside0.mk (show unlike l m (rd_T40 cat k) = false by rw [HU.out, hs, hi, hj]; rfl)
        clear hi hj
        go_wp2_with fail
        go_roundw
        case rel => exact ⟨k + 1, by omega, by go_num, ⟨by
          rw [HSN.out, List.filter_append, List.filter_cons_of_neg (by rw [HU2.out]; decide), List.filter_nil, List.append_nil]
          exact HO6.out⟩, HB6⟩
        case measure => simp [intOf]; omega
      · have hs2 : (((findV l (rd_T40 cat k).f0).getD ⟨#[]⟩).toList != ((findV m (rd_T40 cat k).f0).getD ⟨#[]⟩).toList) = true := by simp only [bne, hs]; rfl
        have HU2 := Aside0.mk (show unlike l m (rd_T40 cat k) = true by rw [HU.out, hs, hi, hj]; rfl)
        have HF := Aside0.mk (show (((cat.take k).filter (unlike l m)).map (·.f0)).length < 4398046511103 by
          rw [List.length_map]
          have := flen2 (l := cat) (unlike l m) k
          omega)
        clear hi hj
        go_wp2_with (at_builtin; go_must (refine app1B (w0 := w3) w3.heap.size rfl (.tmp 51) (.tmp 54) rfl u5 (((cat.take k).filter (unlike l m)).map (·.f0)) (rd_T40 cat k).f0 rfl rfl HO6.out HB6.out HB6.out.size HF.out ?_); intro v1 w6 h1 h2 h3)
        go_roundw
        case rel => exact ⟨k + 1, by omega, by go_num, ⟨by
          rw [HSN.out, List.filter_append, List.filter_cons_of_pos (by rw [HU2.out]), List.filter_nil, List.map_append]
          exact h1⟩, ⟨h2⟩⟩
        case measure => simp [intOf]; omega
      · have hs2 : (((findV l (rd_T40 cat k).f0).getD ⟨#[]⟩).toList != ((findV m (rd_T40 cat k).f0).getD ⟨#[]⟩).toList) = false := by simp only [bne, hs]; rfl
        have HU2 := Aside0.mk (show unlike l m (rd_T40 cat k) = true by rw [HU.out, hs, hi, hj]; rfl)
        have HF := Aside0.mk (show (((cat.take k).filter (unlike l m)).map (·.f0)).length < 4398046511103 by
          rw [List.length_map]
          have := flen2 (l := cat) (unlike l m) k
          omega)
        clear hi hj
        go_wp2_with (at_builtin; go_must (refine app1B (w0 := w3) w3.heap.size rfl (.tmp 51) (.tmp 54) rfl u5 (((cat.take k).filter (unlike l m)).map (·.f0)) (rd_T40 cat k).f0 rfl rfl HO6.out HB6.out HB6.out.size HF.out ?_); intro v1 w6 h1 h2 h3)
        go_roundw
        case rel => exact ⟨k + 1, by omega, by go_num, ⟨by
          rw [HSN.out, List.filter_append, List.filter_cons_of_pos (by rw [HU2.out]), List.filter_nil, List.map_append]
          exact h1⟩, ⟨h2⟩⟩
        case measure => simp [intOf]; omega
      · have hs2 : (((findV l (rd_T40 cat k).f0).getD ⟨#[]⟩).toList != ((findV m (rd_T40 cat k).f0).getD ⟨#[]⟩).toList) = true := by simp only [bne, hs]; rfl
        have HU2 := Aside0.mk (show unlike l m (rd_T40 cat k) = true by rw [HU.out, hs, hi, hj]; rfl)
        have HF := Aside0.mk (show (((cat.take k).filter (unlike l m)).map (·.f0)).length < 4398046511103 by
          rw [List.length_map]
          have := flen2 (l := cat) (unlike l m) k
          omega)
        clear hi hj
        go_wp2_with (at_builtin; go_must (refine app1B (w0 := w3) w3.heap.size rfl (.tmp 51) (.tmp 54) rfl u5 (((cat.take k).filter (unlike l m)).map (·.f0)) (rd_T40 cat k).f0 rfl rfl HO6.out HB6.out HB6.out.size HF.out ?_); intro v1 w6 h1 h2 h3)
        go_roundw
        case rel => exact ⟨k + 1, by omega, by go_num, ⟨by
          rw [HSN.out, List.filter_append, List.filter_cons_of_pos (by rw [HU2.out]), List.filter_nil, List.map_append]
          exact h1⟩, ⟨h2⟩⟩
        case measure => simp [intOf]; omega
      · have hs2 : (((findV l (rd_T40 cat k).f0).getD ⟨#[]⟩).toList != ((findV m (rd_T40 cat k).f0).getD ⟨#[]⟩).toList) = false := by simp only [bne, hs]; rfl
        have HU2 := Aside0.mk (show unlike l m (rd_T40 cat k) = true by rw [HU.out, hs, hi, hj]; rfl)
        have HF := Aside0.mk (show (((cat.take k).filter (unlike l m)).map (·.f0)).length < 4398046511103 by
          rw [List.length_map]
          have := flen2 (l := cat) (unlike l m) k
          omega)
        clear hi hj
        go_wp2_with (at_builtin; go_must (refine app1B (w0 := w3) w3.heap.size rfl (.tmp 51) (.tmp 54) rfl u5 (((cat.take k).filter (unlike l m)).map (·.f0)) (rd_T40 cat k).f0 rfl rfl HO6.out HB6.out HB6.out.size HF.out ?_); intro v1 w6 h1 h2 h3)
        go_roundw
        case rel => exact ⟨k + 1, by omega, by go_num, ⟨by
          rw [HSN.out, List.filter_append, List.filter_cons_of_pos (by rw [HU2.out]), List.filter_nil, List.map_append]
          exact h1⟩, ⟨h2⟩⟩
        case measure => simp [intOf]; omega
      · have hs2 : (((findV l (rd_T40 cat k).f0).getD ⟨#[]⟩).toList != ((findV m (rd_T40 cat k).f0).getD ⟨#[]⟩).toList) = true := by simp only [bne, hs]; rfl
        have HU2 := Aside0.mk (show unlike l m (rd_T40 cat k) = true by rw [HU.out, hs, hi, hj]; rfl)
        have HF := Aside0.mk (show (((cat.take k).filter (unlike l m)).map (·.f0)).length < 4398046511103 by
          rw [List.length_map]
          have := flen2 (l := cat) (unlike l m) k
          omega)
        clear hi hj
        go_wp2_with (at_builtin; go_must (refine app1B (w0 := w3) w3.heap.size rfl (.tmp 51) (.tmp 54) rfl u5 (((cat.take k).filter (unlike l m)).map (·.f0)) (rd_T40 cat k).f0 rfl rfl HO6.out HB6.out HB6.out.size HF.out ?_); intro v1 w6 h1 h2 h3)
        go_roundw
        case rel => exact ⟨k + 1, by omega, by go_num, ⟨by
          rw [HSN.out, List.filter_append, List.filter_cons_of_pos (by rw [HU2.out]), List.filter_nil, List.map_append]
          exact h1⟩, ⟨h2⟩⟩
        case measure => simp [intOf]; omega
      · have hs2 : (((findV l (rd_T40 cat k).f0).getD ⟨#[]⟩).toList != ((findV m (rd_T40 cat k).f0).getD ⟨#[]⟩).toList) = false := by simp only [bne, hs]; rfl
        have HU2 := Aside0.mk (show unlike l m (rd_T40 cat k) = false by rw [HU.out, hs, hi, hj]; rfl)
        clear hi hj
        go_wp2_with fail
        go_roundw
        case rel => exact ⟨k + 1, by omega, by go_num, ⟨by
          rw [HSN.out, List.filter_append, List.filter_cons_of_neg (by rw [HU2.out]; decide), List.filter_nil, List.append_nil]
          exact HO6.out⟩, HB6⟩
        case measure => simp [intOf]; omega
    · obtain rfl : k = cat.length := by omega
      clear hlt
      have HE := Aside0.mk (show (cat.take cat.length).filter (unlike l m) = (l ++ m).filter (unlike l m) by rw [List.take_length, HCAT.out])
      have HS := Aside0.mk (show OwnS wr w3.heap.size u5 ((diffK l m).map (·.data.toList)) by
        have h := HO.out
        rw [HE.out] at h
        exact ownS_of h)
      have HLS := Aside0.mk (show ((diffK l m).map (·.data.toList)).length < 4398046511103 by
        rw [List.length_map, diffK, List.length_map]
        have := List.length_filter_le (unlike l m) (l ++ m)
        rw [HCAT.out] at this ⊢
        omega)
      generalize hss : (diffK l m).map (·.data.toList) = ss at HS HLS
      have HSS := Aside0.mk hss
      clear hss
      obtain ⟨A5, c5, rfl⟩ := ownS_slice HS.out
      go_wp2_with fail
      refine (SortS_calls ss _ w3.heap.size w3 _ HS.out HB.out HB.out.size (by have := HLS.out; omega)).mono ?_
      rintro e w6 ⟨rfl, ho6, hb6⟩
      have HS6 := Aside0.mk ho6
      have HB6 := Aside0.mk hb6
      clear ho6 hb6
      go_wp2_with fail
      refine (CompactS_calls (sorted ss) _ w3.heap.size w3 _ HS6.out HB6.out HB6.out.size (by rw [sorted_length]; have := HLS.out; omega)).mono ?_
      rintro e w7 ⟨v7, rfl, ho7, hb7⟩
      go_wp2
      go_ret
      refine ⟨v7, rfl, ?_, HB3.out.trans (hb7.mono HB3.out.size)⟩
      unfold diffS
      rw [if_pos ⟨HK.out, HK2.out⟩, HSS.out]
      exact own_weaken ho7 HB3.out.size
theorem Diff_calls (A B : Option Addr) (c d : Nat) (l m : List S40) (w : World) (HL : Kd.C k40 w A l.length l) (HM : Kd.C k40 w B m.length m) (hl : l.length < 1099511627776) (hm : m.length < 1099511627776) :
    Calls Try.prog 17 #[.slice A l.length c, .slice B m.length d] w (DiffPost l m w) := by
  by_cases h : rightB l = true ∧ rightB m = true
  · exact Diff_right A B c d l m w HL HM hl hm h.1 h.2
  · exact Diff_wrong A B c d l m w HL HM h
end Go.Proofs.Ytcnmefocbjilbaa.G
namespace Go.Proofs.Ytcnmefocbjilbaa.G
open Go.RowKit Go.Proofs.YtcnmefocbjilbaaW.PrintWords Go.Proofs.YtcnmefocbjilbaaW.PrintLast Go.Proofs.YtcnmefocbjilbaaW.PrintMore
open Go.Proofs.YtcnmefocbjilbaaFlat
set_option maxHeartbeats 1000000
set_option maxRecDepth 20000

/-! ### head's calls, reckoned -/
def hL : List S40 := [⟨⟨#[97]⟩, ⟨#[49]⟩⟩, ⟨⟨#[99]⟩, ⟨#[51]⟩⟩]
def hM : List S40 := [⟨⟨#[97]⟩, ⟨#[50]⟩⟩, ⟨⟨#[98]⟩, ⟨#[49]⟩⟩, ⟨⟨#[99]⟩, ⟨#[51]⟩⟩]
def hR : S24 := ⟨⟨#[]⟩, ⟨#[]⟩, false⟩
theorem hL_right : rightB hL = true := by simp [rightB, hL, fitsB, lessC, Lib.toList_data, Op.bytesLess, ByteArray.size]
theorem hM_right : rightB hM = true := by simp [rightB, hM, fitsB, lessC, Lib.toList_data, Op.bytesLess, ByteArray.size]
theorem fL (k : ByteArray) : findV hL k = findO hL k := by unfold findV; rw [if_pos hL_right]
theorem fM (k : ByteArray) : findV hM k = findO hM k := by unfold findV; rw [if_pos hM_right]
theorem fLa : findV hL ⟨#[97]⟩ = some ⟨#[49]⟩ := by rw [fL]; simp [findO, hL, isKey, Lib.toList_data]
theorem fLb : findV hL ⟨#[98]⟩ = none := by rw [fL]; simp [findO, hL, isKey, Lib.toList_data]
theorem fLc : findV hL ⟨#[99]⟩ = some ⟨#[51]⟩ := by rw [fL]; simp [findO, hL, isKey, Lib.toList_data]
theorem fMa : findV hM ⟨#[97]⟩ = some ⟨#[50]⟩ := by rw [fM]; simp [findO, hM, isKey, Lib.toList_data]
theorem fMb : findV hM ⟨#[98]⟩ = some ⟨#[49]⟩ := by rw [fM]; simp [findO, hM, isKey, Lib.toList_data]
theorem fMc : findV hM ⟨#[99]⟩ = some ⟨#[51]⟩ := by rw [fM]; simp [findO, hM, isKey, Lib.toList_data]
theorem head1 : (doS hL ⟨2, ⟨#[97]⟩, ⟨#[]⟩, hR, 0⟩).2.f4 = true ∧ (doS hL ⟨2, ⟨#[97]⟩, ⟨#[]⟩, hR, 0⟩).2.f5 = ⟨#[49]⟩ := by
  unfold doS
  rw [if_neg (by rw [hL_right]; decide), if_neg (by simp [okCall, Lib.toList_data, ByteArray.size]), if_pos rfl]
  simp [isIn, fLa]
theorem head2 : (doS hL ⟨3, ⟨#[97]⟩, ⟨#[50]⟩, hR, 0⟩).2.f2 = 8 := by
  unfold doS
  rw [if_neg (by rw [hL_right]; decide), if_neg (by simp [okCall, Lib.toList_data, ByteArray.size]), if_neg (by decide), if_pos rfl, if_pos (by simp [isIn, fLa])]
  rfl
theorem head3 : doS hL ⟨3, ⟨#[98]⟩, ⟨#[50]⟩, hR, 0⟩ = ([⟨⟨#[97]⟩, ⟨#[49]⟩⟩, ⟨⟨#[98]⟩, ⟨#[50]⟩⟩, ⟨⟨#[99]⟩, ⟨#[51]⟩⟩], noReply 3 0) := by
  unfold doS
  rw [if_neg (by rw [hL_right]; decide), if_neg (by simp [okCall, Lib.toList_data, ByteArray.size]), if_neg (by decide), if_pos rfl, if_neg (by simp [isIn, fLb])]
  simp [putS, hL, lessC, Lib.toList_data, Op.bytesLess]
theorem head4 : (doS hL ⟨6, ⟨#[]⟩, ⟨#[]⟩, hR, 1⟩).2.f4 = true ∧ (doS hL ⟨6, ⟨#[]⟩, ⟨#[]⟩, hR, 1⟩).2.f6.length = 1 := by
  unfold doS
  have hs : scanAll hL ⟨6, ⟨#[]⟩, ⟨#[]⟩, hR, 1⟩ = hL := by simp [scanAll, hL, hasB, rangeB, inB, hR, Lib.toList_data, Op.bytesLess, ByteArray.size]
  rw [if_neg (by rw [hL_right]; decide), if_neg (by simp [hasKey]), if_neg (by decide), if_neg (by decide), if_neg (by decide), if_neg (by decide), if_pos rfl, if_pos (by simp [scanOk, rangeB, hR, Lib.toList_data, ByteArray.size]), hs]
  simp [hL]
theorem head6 : (doS hL ⟨7, ⟨#[]⟩, ⟨#[]⟩, hR, 0⟩).2.f2 = 2 := by
  unfold doS
  rw [if_neg (by rw [hL_right]; decide), if_neg (by simp [hasKey]), if_neg (by decide), if_neg (by decide), if_neg (by decide), if_neg (by decide), if_neg (by decide)]
  rfl
theorem head5 : diffS hL hM = [[97], [98]] := by
  unfold diffS
  rw [if_pos ⟨hL_right, hM_right⟩]
  have hk : diffK hL hM = [⟨#[97]⟩, ⟨#[97]⟩, ⟨#[98]⟩] := by
    have h : hL ++ hM = [⟨⟨#[97]⟩, ⟨#[49]⟩⟩, ⟨⟨#[99]⟩, ⟨#[51]⟩⟩, ⟨⟨#[97]⟩, ⟨#[50]⟩⟩, ⟨⟨#[98]⟩, ⟨#[49]⟩⟩, ⟨⟨#[99]⟩, ⟨#[51]⟩⟩] := rfl
    unfold diffK
    rw [h]
    simp [unlike, fLa, fLb, fLc, fMa, fMb, fMc]
  rw [hk]
  have hs : sorted ([⟨#[97]⟩, ⟨#[97]⟩, ⟨#[98]⟩].map (fun x : ByteArray => x.data.toList)) = [[97], [97], [98]] := by
    unfold sorted
    refine List.mergeSort_of_pairwise ?_
    simp
    decide
  rw [hs]
  decide
end Go.Proofs.Ytcnmefocbjilbaa.G
namespace Go.Proofs.Ytcnmefocbjilbaa.G
open Go.RowKit Go.Proofs.YtcnmefocbjilbaaW.PrintWords Go.Proofs.YtcnmefocbjilbaaW.PrintLast Go.Proofs.YtcnmefocbjilbaaW.PrintMore
open Go.Proofs.YtcnmefocbjilbaaFlat
set_option maxHeartbeats 2000000
set_option maxRecDepth 20000

theorem C_lit (w : World) (xs : List S40) (n : Nat) (hn : n = xs.length) (hm : n ≤ 1000) : Kd.C k40 (w.alloc (.cells (flat40 xs).toArray 40 (0, 0))) (some ⟨w.heap.size, 0, none⟩) n xs := by
  subst hn
  have ho : Own (w.alloc (.cells (flat40 xs).toArray 40 (0, 0))) w.heap.size (.slice (some ⟨w.heap.size, 0, none⟩) xs.length xs.length) xs :=
    own_of_flat ⟨flat40_length xs, .inr ⟨w.heap.size, xs.length, _, rfl, Nat.le_refl _, heap_new w _, Nat.le_refl _, by simp only [maxLen]; omega, by simp [flat40_length], by simp [← flat40_length]⟩⟩
  exact (Kd.R_reads' ho).2.2
theorem ownS_cells {w : World} {base : Nat} {v : Value} {ss : List (List UInt8)} (h : OwnS w base v ss) (h0 : 0 < ss.length) : ∃ g c, v = .slice (some ⟨g, 0, none⟩) ss.length c ∧ ∀ j, j < ss.length → w.cell? ⟨g, j, none⟩ = some (encStr (ss.getD j [])) := by
  obtain ⟨g, cap, rfl, _, _, _, _, hlen, hH⟩ := Lib.holds_of_ownsRow h (fun e => by subst e; rcases h.2 with ⟨_, h⟩ | ⟨g, cap, cur, h, _⟩ <;> first | omega | cases h)
  refine ⟨g, cap, rfl, fun j hj => ?_⟩
  have := (hH j (by simpa using hj)).1
  rw [Nat.zero_add] at this
  rw [this]
  simp [hj]
theorem head_calls (w : World) : Calls Try.prog 9 #[] w fun e w' => e = .returned (.bool true) ∧ Below w.heap.size w w' := by
  go_enter Try.func9, Try.ntmps9
  go_wp2_with fail
  have HC := Aside0.mk (C_lit w hL 2 rfl (by omega))
  have HB0 := Aside0.mk (below_alloc (Below.refl w.heap.size w) (.cells (flat40 hL).toArray 40 (0, 0)))
  have HB := HB0
  clear HB0
  refine (Do_calls (some ⟨w.heap.size, 0, none⟩) 2 hL ⟨2, ⟨#[97]⟩, ⟨#[]⟩, hR, 0⟩ _ HC.out (by decide) (by decide)).mono ?_
  rintro e w1 ⟨va, vc, he, hva, hvc, -, hb⟩
  have F := head1
  generalize doS hL ⟨2, ⟨#[97]⟩, ⟨#[]⟩, hR, 0⟩ = P1 at he hva hvc F
  rw [F.1, F.2] at he
  obtain ⟨V1, m1, rfl⟩ := Kd.R_slice hva
  obtain ⟨A1, n1, rfl, -, -⟩ := hvc
  obtain rfl := he
  have NB := below_alloc hb (.cells #[.int .i64 0, .int .u8 2, .int .i64 P1.2.f2, .int .u64 0, .bool true, .string ⟨#[49]⟩, .slice A1 P1.2.f6.length n1] 34 (0, 0))
  have HB := Aside0.mk (HB.out.trans (NB.mono HB.out.size))
  have HC := Aside0.mk (Kd.C_below HC.out NB)
  have R1 := Aside0.mk (heap_new w1 (.cells #[.int .i64 0, .int .u8 2, .int .i64 P1.2.f2, .int .u64 0, .bool true, .string ⟨#[49]⟩, .slice A1 P1.2.f6.length n1] 34 (0, 0)))
  clear hb hva NB
  go_wp2_with fail
  refine (Do_calls (some ⟨w.heap.size, 0, none⟩) 2 hL ⟨3, ⟨#[97]⟩, ⟨#[50]⟩, hR, 0⟩ _ HC.out (by decide) (by decide)).mono ?_
  rintro e w2 ⟨va, vc, he, hva, hvc, -, hb⟩
  have F := head2
  generalize doS hL ⟨3, ⟨#[97]⟩, ⟨#[50]⟩, hR, 0⟩ = P2 at he hva hvc F
  rw [F] at he
  obtain ⟨V2, m2, rfl⟩ := Kd.R_slice hva
  obtain ⟨A2, n2, rfl, -, -⟩ := hvc
  obtain rfl := he
  have NB := below_alloc hb (.cells #[.int .i64 0, .int .u8 3, .int .i64 8, .int .u64 0, .bool P2.2.f4, .string P2.2.f5, .slice A2 P2.2.f6.length n2] 34 (0, 0))
  have HB := Aside0.mk (HB.out.trans (NB.mono HB.out.size))
  have HC := Aside0.mk (Kd.C_below HC.out NB)
  have R1 := Aside0.mk (blk_below R1.out NB)
  have R2 := Aside0.mk (heap_new w2 (.cells #[.int .i64 0, .int .u8 3, .int .i64 8, .int .u64 0, .bool P2.2.f4, .string P2.2.f5, .slice A2 P2.2.f6.length n2] 34 (0, 0)))
  clear hb hva NB
  go_wp2_with fail
  refine (Do_calls (some ⟨w.heap.size, 0, none⟩) 2 hL ⟨3, ⟨#[98]⟩, ⟨#[50]⟩, hR, 0⟩ _ HC.out (by decide) (by decide)).mono ?_
  rintro e w3 ⟨va, vc, he, hva, hvc, -, hb⟩
  rw [head3] at he hva hvc
  obtain ⟨g3, m3, rfl, -, -, -⟩ := Kd.R_form hva (by decide)
  have hv3 := (Kd.R_reads' hva).2.2
  obtain ⟨A3, n3, rfl, -, -⟩ := hvc
  change e = Ending.returned (.tuple #[_, .agg #[.int .i64 0, .int .u8 3, .int .i64 0, .int .u64 0, .bool false, .string ⟨#[]⟩, .slice A3 0 n3]]) at he
  obtain rfl := he
  have NB := below_alloc hb (.cells #[.int .i64 0, .int .u8 3, .int .i64 0, .int .u64 0, .bool false, .string ⟨#[]⟩, .slice A3 0 n3] 34 (0, 0))
  have HB := Aside0.mk (HB.out.trans (NB.mono HB.out.size))
  have HC := Aside0.mk (Kd.C_below HC.out NB)
  have R1 := Aside0.mk (blk_below R1.out NB)
  have R2 := Aside0.mk (blk_below R2.out NB)
  have R3 := Aside0.mk (heap_new w3 (.cells #[.int .i64 0, .int .u8 3, .int .i64 0, .int .u64 0, .bool false, .string ⟨#[]⟩, .slice A3 0 n3] 34 (0, 0)))
  have CV := Aside0.mk (Kd.C_alloc hv3 (.cells #[.int .i64 0, .int .u8 3, .int .i64 0, .int .u64 0, .bool false, .string ⟨#[]⟩, .slice A3 0 n3] 34 (0, 0)))
  clear hv3
  clear hb hva NB
  go_wp2_with fail
  refine (Do_calls (some ⟨w.heap.size, 0, none⟩) 2 hL ⟨6, ⟨#[]⟩, ⟨#[]⟩, hR, 1⟩ _ HC.out (by decide) (by decide)).mono ?_
  rintro e w4 ⟨va, vc, he, hva, hvc, -, hb⟩
  have F := head4
  generalize doS hL ⟨6, ⟨#[]⟩, ⟨#[]⟩, hR, 1⟩ = P4 at he hva hvc F
  rw [F.1] at he
  obtain ⟨V4, m4, rfl⟩ := Kd.R_slice hva
  obtain ⟨A4, n4, rfl, -, -⟩ := hvc
  rw [F.2] at he
  obtain rfl := he
  have NB := below_alloc hb (.cells #[.int .i64 0, .int .u8 6, .int .i64 P4.2.f2, .int .u64 0, .bool true, .string P4.2.f5, .slice A4 1 n4] 34 (0, 0))
  have HB := Aside0.mk (HB.out.trans (NB.mono HB.out.size))
  have HC := Aside0.mk (Kd.C_below HC.out NB)
  have R1 := Aside0.mk (blk_below R1.out NB)
  have R2 := Aside0.mk (blk_below R2.out NB)
  have R3 := Aside0.mk (blk_below R3.out NB)
  have CV := Aside0.mk (Kd.C_below CV.out NB)
  have R4 := Aside0.mk (heap_new w4 (.cells #[.int .i64 0, .int .u8 6, .int .i64 P4.2.f2, .int .u64 0, .bool true, .string P4.2.f5, .slice A4 1 n4] 34 (0, 0)))
  clear hb hva NB
  go_wp2_with fail
  have NB := below_alloc (Below.refl _ (w4.alloc (.cells #[.int .i64 0, .int .u8 6, .int .i64 P4.2.f2, .int .u64 0, .bool true, .string P4.2.f5, .slice A4 1 n4] 34 (0, 0)))) (.cells (flat40 hM).toArray 40 (0, 0))
  have hcm := C_lit (w4.alloc (.cells #[.int .i64 0, .int .u8 6, .int .i64 P4.2.f2, .int .u64 0, .bool true, .string P4.2.f5, .slice A4 1 n4] 34 (0, 0))) hM 3 rfl (by omega)
  rw [World.size_alloc] at hcm
  have HCM := Aside0.mk hcm
  clear hcm
  have HB := Aside0.mk (HB.out.trans (NB.mono HB.out.size))
  have HC := Aside0.mk (Kd.C_below HC.out NB)
  have CV := Aside0.mk (Kd.C_below CV.out NB)
  have R1 := Aside0.mk (blk_below R1.out NB)
  have R2 := Aside0.mk (blk_below R2.out NB)
  have R3 := Aside0.mk (blk_below R3.out NB)
  have R4 := Aside0.mk (blk_below R4.out NB)
  clear NB
  refine (Diff_calls (some ⟨w.heap.size, 0, none⟩) _ 2 3 hL hM _ HC.out HCM.out (by decide) (by decide)).mono ?_
  rintro e wd ⟨vd, rfl, hod, NB⟩
  rw [head5] at hod
  obtain ⟨gd, cd, rfl, hcd⟩ := ownS_cells hod (by simp)
  have D0 := hcd 0 (by decide)
  have D1 := hcd 1 (by decide)
  have HB := Aside0.mk (HB.out.trans (NB.mono HB.out.size))
  have HC := Aside0.mk (Kd.C_below HC.out NB)
  have CV := Aside0.mk (Kd.C_below CV.out NB)
  have R1 := Aside0.mk (blk_below R1.out NB)
  have R2 := Aside0.mk (blk_below R2.out NB)
  have R3 := Aside0.mk (blk_below R3.out NB)
  have R4 := Aside0.mk (blk_below R4.out NB)
  clear NB hod hcd HCM
  go_wp2_with fail
  refine (Do_calls (some ⟨w.heap.size, 0, none⟩) 2 hL ⟨7, ⟨#[]⟩, ⟨#[]⟩, hR, 0⟩ _ HC.out (by decide) (by decide)).mono ?_
  rintro e w5 ⟨va, vc, he, hva, hvc, -, hb⟩
  have F := head6
  generalize doS hL ⟨7, ⟨#[]⟩, ⟨#[]⟩, hR, 0⟩ = P5 at he hva hvc F
  rw [F] at he
  obtain ⟨V5, m5, rfl⟩ := Kd.R_slice hva
  obtain ⟨A5, n5, rfl, -, -⟩ := hvc
  obtain rfl := he
  have NB := below_alloc hb (.cells #[.int .i64 0, .int .u8 7, .int .i64 2, .int .u64 0, .bool P5.2.f4, .string P5.2.f5, .slice A5 P5.2.f6.length n5] 34 (0, 0))
  have HB := Aside0.mk (HB.out.trans (NB.mono HB.out.size))
  have HC := Aside0.mk (Kd.C_below HC.out NB)
  have R1 := Aside0.mk (blk_below R1.out NB)
  have R2 := Aside0.mk (blk_below R2.out NB)
  have R3 := Aside0.mk (blk_below R3.out NB)
  have R4 := Aside0.mk (blk_below R4.out NB)
  have CV := Aside0.mk (Kd.C_below CV.out NB)
  have D0 := pw_cell_below NB D0
  have D1 := pw_cell_below NB D1
  have R5 := Aside0.mk (heap_new w5 (.cells #[.int .i64 0, .int .u8 7, .int .i64 2, .int .u64 0, .bool P5.2.f4, .string P5.2.f5, .slice A5 P5.2.f6.length n5] 34 (0, 0)))
  clear hb hva NB
  obtain ⟨ad, had, z0, z1⟩ := at_T40 CV.out 1 (by omega) (by simp)
  obtain rfl := Option.some.inj had
  have z2 : _ = some (Value.string ⟨#[98]⟩) := z0
  rw [show (⟨g3, 0, none⟩ : Addr).add ((1 : Int).toNat * 2) = ⟨g3, 2, none⟩ from rfl] at z2
  clear z0 z1
  have r14 := (blk_cell R1.out 4).trans rfl
  have r15 := (blk_cell R1.out 5).trans rfl
  have r22 := (blk_cell R2.out 2).trans rfl
  have r32 := (blk_cell R3.out 2).trans rfl
  have r44 := (blk_cell R4.out 4).trans rfl
  have r46 := (blk_cell R4.out 6).trans rfl
  have r52 := (blk_cell R5.out 2).trans rfl
  go_wp2_with fail
  go_ret
  exact ⟨rfl, HB.out⟩
end Go.Proofs.Ytcnmefocbjilbaa.G
namespace Go.Proofs.Ytcnmefocbjilbaa.G
open Go.ChangeShapes Go.WideShapes Go.ChangeAt Go.RowKit Go.Proofs.YtcnmefocbjilbaaW.PrintWords
/-- A []Cell that came in. -/
theorem open_cells {H : Type} {enc : TypeId × Value → H} {W : World} {spare : Nat → Bool} {held : Bool} {A : Option Addr} {n c : Nat} {d : DataW H} {p : List MemPlace} (h : DataW.Trod enc Try.prog W 0 spare held 22 (.slice A n c) d p) :
    ∃ l : List S40, n = l.length ∧ l.length ≤ c ∧ Kd.C k40 W A l.length l := by
  obtain ⟨fuel, hf⟩ := h
  rcases Go.Deep.open_slice_pairs Try.underlying22 Try.underlying40 (by kernel_rfl) rfl rfl (by kernel_rfl) (by kernel_rfl) hf with ⟨hcs, _⟩ | ⟨a, len, cap, m, k, V0, V1, D0, D1, P0, P1, hcs, _, hlc, hcm, hm, _, hx⟩
  · simp [Value.cells] at hcs
    obtain ⟨rfl, rfl, rfl⟩ := hcs
    exact ⟨[], rfl, Nat.le_refl _, Kd.C_nil k40 W⟩
  · simp [Value.cells] at hcs
    obtain ⟨rfl, rfl, rfl⟩ := hcs
    have hnm : n ≤ m := by rw [hm]; split <;> omega
    have hs : ∀ i, i < m → ∃ q : S40, V0 i = .string q.f0 ∧ V1 i = .string q.f1 := by
      intro i hi
      obtain ⟨_, _, h0, h1⟩ := hx i hi
      obtain ⟨s0, e0, _⟩ := DataW.trod_string (show Try.prog.underlying 9 = some .string by kernel_rfl) h0
      obtain ⟨s1, e1, _⟩ := DataW.trod_string (show Try.prog.underlying 9 = some .string by kernel_rfl) h1
      exact ⟨⟨s0, s1⟩, by simpa using e0, by simpa using e1⟩
    haveI : Inhabited S40 := ⟨z40⟩
    obtain ⟨q, hq⟩ := Go.Deep.choose_lt hs
    refine ⟨(List.range n).map q, by simp, by simpa using hlc, by simp, by simp only [List.length_map, List.length_range]; simp only [maxLen] at hcm; omega, fun _ => ⟨a, rfl, fun j x hj => ?_⟩⟩
    have hjn : j < n := by
      have := (List.getElem?_eq_some_iff.1 hj).1
      simpa using this
    have hx' : x = q j := by
      have : ((List.range n).map q)[j]? = some (q j) := by simp [hjn]
      rw [this] at hj
      exact (Option.some.inj hj).symm
    subst hx'
    obtain ⟨g0, g1, _, _⟩ := hx j (by omega)
    obtain ⟨q0, q1⟩ := hq j (by omega)
    refine ⟨[.string (q j).f0, .string (q j).f1], rfl, k40_mk W _, fun i u hu => ?_⟩
    match i, hu with
    | 0, hu => obtain rfl : Value.string (q j).f0 = u := by simpa using hu
               rw [← q0]; exact g0
    | 1, hu => obtain rfl : Value.string (q j).f1 = u := by simpa using hu
               rw [← q1]; exact g1
    | i + 2, hu => simp at hu
end Go.Proofs.Ytcnmefocbjilbaa.G
namespace Go.Proofs.Ytcnmefocbjilbaa.G
open Go.ChangeShapes Go.WideShapes Go.ChangeAt Go.RowKit Go.Proofs.YtcnmefocbjilbaaW.PrintWords
set_option maxRecDepth 20000
theorem array7_ {cs : Array Value} (h : cs.size = 7) : ∃ c0 c1 c2 c3 c4 c5 c6, cs = #[c0, c1, c2, c3, c4, c5, c6] := by
  obtain ⟨l⟩ := cs
  simp only [List.size_toArray] at h
  match l, h with
  | [c0, c1, c2, c3, c4, c5, c6], _ => exact ⟨c0, c1, c2, c3, c4, c5, c6, rfl⟩
theorem open_call {H : Type} {enc : TypeId × Value → H} {W : World} {spare : Nat → Bool} {held : Bool} {r : Reach} {b0 : Nat} {v : Value} {d : DataW H} {p : List MemPlace} (hv : Value.okWide Try.prog W r b0 26 v) (h : DataW.Trod enc Try.prog W 0 spare held 26 v d p) : ∃ x : S26, v = .agg (cellsC x) := by
  obtain ⟨cs, rfl, hsz⟩ := okWide_struct Try.underlying26 hv
  obtain ⟨c0, c1, c2, c3, c4, c5, c6, rfl⟩ := array7_ (hsz.trans (by kernel_rfl))
  obtain ⟨fuel, hf⟩ := h
  obtain ⟨xs, n, rfl, _, _, hxl, hg⟩ := DataW.trod_struct Try.underlying26 hf
  have k5 : Try.prog.cellsOf 5 = 1 := by kernel_rfl
  have k9 : Try.prog.cellsOf 9 = 1 := by kernel_rfl
  have k24 : Try.prog.cellsOf 24 = 3 := by kernel_rfl
  have k3 : Try.prog.cellsOf 3 = 1 := by kernel_rfl
  have k4 : Try.prog.cellsOf 4 = 1 := by kernel_rfl
  match xs, hxl with
  | [y0, y1, y2, y3, y4], _ =>
    have g0 : DataW.trod enc Try.prog W 0 spare held n 5 ((List.drop 0 [c0, c1, c2, c3, c4, c5, c6]).take (Try.prog.cellsOf 5)) = some y0 := hg 0 _ rfl
    have g1 : DataW.trod enc Try.prog W 0 spare held n 9 ((List.drop 1 [c0, c1, c2, c3, c4, c5, c6]).take (Try.prog.cellsOf 9)) = some y1 := hg 1 _ rfl
    have g2 : DataW.trod enc Try.prog W 0 spare held n 9 ((List.drop 2 [c0, c1, c2, c3, c4, c5, c6]).take (Try.prog.cellsOf 9)) = some y2 := hg 2 _ rfl
    have g3 : DataW.trod enc Try.prog W 0 spare held n 24 ((List.drop 3 [c0, c1, c2, c3, c4, c5, c6]).take (Try.prog.cellsOf 24)) = some y3 := hg 3 _ rfl
    have g4 : DataW.trod enc Try.prog W 0 spare held n 3 ((List.drop 6 [c0, c1, c2, c3, c4, c5, c6]).take (Try.prog.cellsOf 3)) = some y4 := hg 4 _ rfl
    rw [k5] at g0
    rw [k9] at g1 g2
    rw [k24] at g3
    rw [k3] at g4
    obtain ⟨a0, e0, _⟩ := DataW.trod_int (k := .u8) (show Try.prog.underlying 5 = some (.int .u8) by kernel_rfl) g0
    obtain ⟨a1, e1, _⟩ := DataW.trod_string (show Try.prog.underlying 9 = some .string by kernel_rfl) g1
    obtain ⟨a2, e2, _⟩ := DataW.trod_string (show Try.prog.underlying 9 = some .string by kernel_rfl) g2
    obtain ⟨a6, e6, _⟩ := DataW.trod_int (k := .i64) (show Try.prog.underlying 3 = some (.int .i64) by kernel_rfl) g4
    obtain ⟨zs, m, _, _, _, hzl, hk⟩ := DataW.trod_struct Try.underlying24 g3
    match zs, hzl with
    | [z0, z1, z2], _ =>
      have f0 : DataW.trod enc Try.prog W 0 spare held m 9 ((List.drop 0 [c3, c4, c5]).take (Try.prog.cellsOf 9)) = some z0 := hk 0 _ rfl
      have f1 : DataW.trod enc Try.prog W 0 spare held m 9 ((List.drop 1 [c3, c4, c5]).take (Try.prog.cellsOf 9)) = some z1 := hk 1 _ rfl
      have f2 : DataW.trod enc Try.prog W 0 spare held m 4 ((List.drop 2 [c3, c4, c5]).take (Try.prog.cellsOf 4)) = some z2 := hk 2 _ rfl
      rw [k9] at f0 f1
      rw [k4] at f2
      obtain ⟨a3, e3, _⟩ := DataW.trod_string (show Try.prog.underlying 9 = some .string by kernel_rfl) f0
      obtain ⟨a4, e4, _⟩ := DataW.trod_string (show Try.prog.underlying 9 = some .string by kernel_rfl) f1
      obtain ⟨a5, e5, _⟩ := DataW.trod_bool (show Try.prog.underlying 4 = some .bool by kernel_rfl) f2
      simp [Value.cells] at e0 e1 e2 e3 e4 e5 e6
      refine ⟨⟨a0, a1, a2, ⟨a3, a4, a5⟩, a6⟩, ?_⟩
      rw [e0, e1, e2, e3, e4, e5, e6]
      rfl
end Go.Proofs.Ytcnmefocbjilbaa.G
