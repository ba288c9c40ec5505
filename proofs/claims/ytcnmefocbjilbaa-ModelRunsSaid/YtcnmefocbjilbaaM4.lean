/- Part of the seat's claims: the document's Do answers doS. -/
import Derived.Test.YtcnmefocbjilbaaM2
import Derived.BigQuiet
import Derived.Test.YtcnmefocbjilbaaM3
set_option linter.unusedVariables false
set_option linter.unusedSimpArgs false
namespace Go.Proofs.Ytcnmefocbjilbaa.G
open Go.RowKit Go.Proofs.YtcnmefocbjilbaaW.PrintWords Go.Proofs.YtcnmefocbjilbaaW.PrintLast Go.Proofs.YtcnmefocbjilbaaW.PrintMore
open Go.Proofs.YtcnmefocbjilbaaFlat
set_option maxHeartbeats 2000000
set_option maxRecDepth 20000

/-- The document's Do: its three variables are laid. -/
def startR (x : S26) (w : World) : World :=
  ((w.alloc (.cells #[.int .u8 x.f0, .string x.f1, .string x.f2, .string x.f3.f0, .string x.f3.f1, .bool x.f3.f2, .int .i64 x.f4] 26 (0, 0))).alloc (.cells #[.int .i64 0, .int .u8 0, .int .i64 0, .int .u64 0, .bool false, .string ⟨#[]⟩, .slice none 0 0] 34 (0, 0))).alloc (.cells #[.int .i64 0, .int .u8 x.f0, .int .i64 0, .int .u64 0, .bool false, .string ⟨#[]⟩, .slice none 0 0] 34 (0, 0))
theorem push3_get (h : Array Obj) (a b c : Obj) : ((((h.push a).push b).push c)[h.size]? = some a) ∧ ((((h.push a).push b).push c)[h.size + 1]? = some b) ∧ ((((h.push a).push b).push c)[h.size + 1 + 1]? = some c) := by
  simp only [Array.getElem?_push, Array.size_push]
  refine ⟨?_, ?_, ?_⟩
  · rw [if_neg (by omega), if_neg (by omega), if_pos trivial]
  · rw [if_neg (by omega), if_pos trivial]
  · rw [if_pos trivial]
/-- Where the document's Do stands. -/
structure Sr (w w' : World) (x : S26) (cs : Array Value) : Prop where
  below : Below w.heap.size w w'
  size : w.heap.size + 3 ≤ w'.heap.size
  x : w'.heap[w.heap.size]? = some (.cells #[.int .u8 x.f0, .string x.f1, .string x.f2, .string x.f3.f0, .string x.f3.f1, .bool x.f3.f2, .int .i64 x.f4] 26 (0, 0))
  res : w'.heap[w.heap.size + 1]? = some (.cells #[.int .i64 0, .int .u8 0, .int .i64 0, .int .u64 0, .bool false, .string ⟨#[]⟩, .slice none 0 0] 34 (0, 0))
  r : w'.heap[w.heap.size + 1 + 1]? = some (.cells cs 34 (0, 0))
theorem startR_is (x : S26) (w : World) : Sr w (startR x w) x #[.int .i64 0, .int .u8 x.f0, .int .i64 0, .int .u64 0, .bool false, .string ⟨#[]⟩, .slice none 0 0] :=
  ⟨below_alloc (below_alloc (below_alloc (Below.refl _ _) _) _) _, by simp [startR], (push3_get w.heap _ _ _).1, (push3_get w.heap _ _ _).2.1, (push3_get w.heap _ _ _).2.2⟩
theorem Sr.mv {w w' w'' : World} {x : S26} {cs : Array Value} (h : Sr w w' x cs) (hb : Below w'.heap.size w' w'') : Sr w w'' x cs :=
  ⟨h.below.trans (hb.mono h.below.size), Nat.le_trans h.size hb.size, blk_below h.x hb, blk_below h.res hb, blk_below h.r hb⟩
theorem Sr.to {w w' w'' : World} {x : S26} {cs cs' : Array Value} (h : Sr w w' x cs) (ho : Only w' w'' (w.heap.size + 1 + 1) cs' 34) : Sr w w'' x cs' :=
  ⟨h.below.trans (ho.below (by omega)), by rw [ho.size]; exact h.size, (ho.other _ (by omega)).trans h.x, (ho.other _ (by omega)).trans h.res, ho.here⟩
theorem ref_results {b5 : Nat} {tmps : Array Value} {va : Value} (h4 : tmps[4]? = some va) (h5 : tmps[5]? = some (.pointer (some ⟨b5, 0, none⟩))) {w : World} {y0 y1 y2 y3 y4 y5 y6 : Value}
    (hr : w.heap[b5]? = some (.cells #[y0, y1, y2, y3, y4, y5, y6] 34 (0, 0))) : (results Try.f12 tmps).run Try.prog w = .ok (.tuple #[va, .agg #[y0, y1, y2, y3, y4, y5, y6]]) w := by
  have r0 := (blk_cell hr 0).trans rfl
  have r1 := (blk_cell hr 1).trans rfl
  have r2 := (blk_cell hr 2).trans rfl
  have r3 := (blk_cell hr 3).trans rfl
  have r4 := (blk_cell hr 4).trans rfl
  have r5 := (blk_cell hr 5).trans rfl
  have r6 := (blk_cell hr 6).trans rfl
  simp [results, Try.results12, go_sem, h4, h5, r0, r1, r2, r3, r4, r5, r6]
/-- The document's Do returns, behind its last region. -/
theorem finR {l out cells : List S40} {x : S26} {w w9 : World} {va vc : Value} {e2 : Int} {is : Bool} {v : ByteArray} {a : Act}
    (e : doS l x = (out, ⟨0, x.f0, e2, 0, is, v, cells⟩)) (HS : Sr w w9 x #[.int .i64 0, .int .u8 x.f0, .int .i64 e2, .int .u64 0, .bool is, .string v, vc])
    (HO : Own w9 w.heap.size va out) (HC : OwnC w9 w.heap.size vc cells) (hap : ∀ k, va.ownBlock = some k → vc.ownBlock ≠ some k)
    (hd : a.defers = []) (h4 : a.tmps[4]? = some va) (h5 : a.tmps[5]? = some (.pointer (some ⟨w.heap.size + 1, 0, none⟩))) :
    bodyPost Try.prog Try.f12 (DoPost l x w) Exit.ret a
      (((((((w9.setCell ⟨w.heap.size + 1, 0, none⟩ (.int .i64 0)).setCell ⟨w.heap.size + 1, 1, none⟩ (.int .u8 x.f0)).setCell ⟨w.heap.size + 1, 2, none⟩ (.int .i64 e2)).setCell ⟨w.heap.size + 1, 3, none⟩ (.int .u64 0)).setCell ⟨w.heap.size + 1, 4, none⟩ (.bool is)).setCell ⟨w.heap.size + 1, 5, none⟩ (.string v)).setCell ⟨w.heap.size + 1, 6, none⟩ vc).drew := by
  have h3 : Only w9 _ (w.heap.size + 1) #[.int .i64 0, .int .u8 x.f0, .int .i64 e2, .int .u64 0, .bool is, .string v, vc] 34 := ((((((((Only.refl HS.res).set 0 (.int .i64 0)).set 1 (.int .u8 x.f0)).set 2 (.int .i64 e2)).set 3 (.int .u64 0)).set 4 (.bool is)).set 5 (.string v)).set 6 vc).drew
  simp only [bodyPost]
  refine ⟨hd, _, ref_results h4 h5 h3.here, ?_⟩
  unfold DoPost
  rw [e]
  exact ⟨va, vc, rfl, own_only HO HS.res h3 (by decide), ownC_only HC HS.res h3 (by decide), hap, HS.below.trans (h3.below (by omega))⟩
theorem refDo_wrong (A : Option Addr) (c : Nat) (l : List S40) (x : S26) (w : World) (HR : Kd.C k40 w A l.length l) (hl : l.length < 2199023255551) (hr : rightB l = false) :
    Calls Try.prog 12 #[.slice A l.length c, .agg (cellsC x)] w (DoPost l x w) := by
  have HR0 := Aside0.mk HR
  have HK := Aside0.mk hr
  clear HR hr
  unfold cellsC
  go_enter Try.func12, Try.ntmps12
  go_wp2_with fail
  show Calls Try.prog 16 _ (startR x w) _
  refine (ref10_Right_calls A c l _ (Kd.C_below HR0.out (startR_is x w).below)).mono ?_
  rintro e w1 ⟨he, hb⟩
  rw [HK.out] at he
  obtain rfl := he
  have HS1 := Aside0.mk ((startR_is x w).mv hb)
  clear hb
  have r0 := (blk_cell HS1.out.r 0).trans rfl
  have f0 := blk_frozen HS1.out.r 0
  have q0 := (blk_cell HS1.out.res 0).trans rfl
  have p0 := blk_frozen HS1.out.res 0
  have r1 := (blk_cell HS1.out.r 1).trans rfl
  have f1 := blk_frozen HS1.out.r 1
  have q1 := (blk_cell HS1.out.res 1).trans rfl
  have p1 := blk_frozen HS1.out.res 1
  have r2 := (blk_cell HS1.out.r 2).trans rfl
  have f2 := blk_frozen HS1.out.r 2
  have q2 := (blk_cell HS1.out.res 2).trans rfl
  have p2 := blk_frozen HS1.out.res 2
  have r3 := (blk_cell HS1.out.r 3).trans rfl
  have f3 := blk_frozen HS1.out.r 3
  have q3 := (blk_cell HS1.out.res 3).trans rfl
  have p3 := blk_frozen HS1.out.res 3
  have r4 := (blk_cell HS1.out.r 4).trans rfl
  have f4 := blk_frozen HS1.out.r 4
  have q4 := (blk_cell HS1.out.res 4).trans rfl
  have p4 := blk_frozen HS1.out.res 4
  have r5 := (blk_cell HS1.out.r 5).trans rfl
  have f5 := blk_frozen HS1.out.r 5
  have q5 := (blk_cell HS1.out.res 5).trans rfl
  have p5 := blk_frozen HS1.out.res 5
  have r6 := (blk_cell HS1.out.r 6).trans rfl
  have f6 := blk_frozen HS1.out.r 6
  have q6 := (blk_cell HS1.out.res 6).trans rfl
  have p6 := blk_frozen HS1.out.res 6
  have x0 := (blk_cell HS1.out.x 0).trans rfl
  have x1 := (blk_cell HS1.out.x 1).trans rfl
  have x2 := (blk_cell HS1.out.x 2).trans rfl
  have x3 := (blk_cell HS1.out.x 3).trans rfl
  have x4 := (blk_cell HS1.out.x 4).trans rfl
  have x5 := (blk_cell HS1.out.x 5).trans rfl
  have x6 := (blk_cell HS1.out.x 6).trans rfl
  go_wp2
  go_region
  go_wp2
  have h1 : Only w1 _ (w.heap.size + 1 + 1) #[.int .i64 0, .int .u8 x.f0, .int .i64 100, .int .u64 0, .bool false, .string ⟨#[]⟩, .slice none 0 0] 34 := (Only.refl HS1.out.r).set 2 (.int .i64 100)
  exact finR (va := .slice none 0 0) (vc := .slice none 0 0) (by unfold doS; rw [if_pos HK.out]; rfl) (HS1.out.to h1) (Kd.R_nil k40 40 _ _ _) (noCells _ _) (fun k hk => by cases hk) rfl rfl rfl
end Go.Proofs.Ytcnmefocbjilbaa.G
namespace Go.Proofs.Ytcnmefocbjilbaa.G
open Go.RowKit Go.Proofs.YtcnmefocbjilbaaW.PrintWords Go.Proofs.YtcnmefocbjilbaaW.PrintLast Go.Proofs.YtcnmefocbjilbaaW.PrintMore
open Go.Proofs.YtcnmefocbjilbaaFlat
set_option maxHeartbeats 2000000
set_option maxRecDepth 20000

theorem okCall_sizes (x : S26) : okCall x = (decide (1 ≤ x.f1.size) && decide (x.f1.size ≤ 512) && decide (x.f2.size ≤ 2048)) := by
  have h : (!x.f1.toList.isEmpty) = decide (1 ≤ x.f1.size) := by
    rw [Lib.toList_data]
    have e : x.f1.size = x.f1.data.toList.length := rfl
    rw [e]
    cases x.f1.data.toList <;> simp
  rw [okCall, h]
theorem refDo_long (A : Option Addr) (c : Nat) (l : List S40) (x : S26) (w : World) (HR : Kd.C k40 w A l.length l) (hl : l.length < 2199023255551) (hr : rightB l = true) (h2 : 2 ≤ x.f0) (h5 : x.f0 ≤ 5) (ho : okCall x = false) :
    Calls Try.prog 12 #[.slice A l.length c, .agg (cellsC x)] w (DoPost l x w) := by
  have HR0 := Aside0.mk HR
  have HK := Aside0.mk hr
  have H2 := Aside0.mk h2
  have H5 := Aside0.mk h5
  have HO := Aside0.mk ho
  clear HR hr h2 h5 ho
  unfold cellsC
  go_enter Try.func12, Try.ntmps12
  go_wp2_with fail
  show Calls Try.prog 16 _ (startR x w) _
  refine (ref10_Right_calls A c l _ (Kd.C_below HR0.out (startR_is x w).below)).mono ?_
  rintro e w1 ⟨he, hb⟩
  rw [HK.out] at he
  obtain rfl := he
  have HS1 := Aside0.mk ((startR_is x w).mv hb)
  clear hb
  go_wp2_with fail
  refine (Copy_calls A c l _ (Kd.C_below HR0.out HS1.out.below) (by omega)).mono ?_
  rintro e w2 ⟨va, rfl, hva, hb⟩
  obtain ⟨VA, vn, rfl⟩ := Kd.R_slice hva
  have HS2 := Aside0.mk (HS1.out.mv hb)
  have HVA := Aside0.mk hva
  have HB12 := Aside0.mk hb
  clear hb hva
  have r0 := (blk_cell HS2.out.r 0).trans rfl
  have f0 := blk_frozen HS2.out.r 0
  have q0 := (blk_cell HS2.out.res 0).trans rfl
  have p0 := blk_frozen HS2.out.res 0
  have r1 := (blk_cell HS2.out.r 1).trans rfl
  have f1 := blk_frozen HS2.out.r 1
  have q1 := (blk_cell HS2.out.res 1).trans rfl
  have p1 := blk_frozen HS2.out.res 1
  have r2 := (blk_cell HS2.out.r 2).trans rfl
  have f2 := blk_frozen HS2.out.r 2
  have q2 := (blk_cell HS2.out.res 2).trans rfl
  have p2 := blk_frozen HS2.out.res 2
  have r3 := (blk_cell HS2.out.r 3).trans rfl
  have f3 := blk_frozen HS2.out.r 3
  have q3 := (blk_cell HS2.out.res 3).trans rfl
  have p3 := blk_frozen HS2.out.res 3
  have r4 := (blk_cell HS2.out.r 4).trans rfl
  have f4 := blk_frozen HS2.out.r 4
  have q4 := (blk_cell HS2.out.res 4).trans rfl
  have p4 := blk_frozen HS2.out.res 4
  have r5 := (blk_cell HS2.out.r 5).trans rfl
  have f5 := blk_frozen HS2.out.r 5
  have q5 := (blk_cell HS2.out.res 5).trans rfl
  have p5 := blk_frozen HS2.out.res 5
  have r6 := (blk_cell HS2.out.r 6).trans rfl
  have f6 := blk_frozen HS2.out.r 6
  have q6 := (blk_cell HS2.out.res 6).trans rfl
  have p6 := blk_frozen HS2.out.res 6
  have x0 := (blk_cell HS2.out.x 0).trans rfl
  have x1 := (blk_cell HS2.out.x 1).trans rfl
  have x2 := (blk_cell HS2.out.x 2).trans rfl
  have x3 := (blk_cell HS2.out.x 3).trans rfl
  have x4 := (blk_cell HS2.out.x 4).trans rfl
  have x5 := (blk_cell HS2.out.x 5).trans rfl
  have x6 := (blk_cell HS2.out.x 6).trans rfl
  have d1 : decide (2 ≤ x.f0) = true := decide_eq_true (by have := H2.out; omega)
  have d2 : decide (x.f0 ≤ 5) = true := decide_eq_true (by have := H5.out; omega)
  have h1 : Only w2 _ (w.heap.size + 1 + 1) #[.int .i64 0, .int .u8 x.f0, .int .i64 3, .int .u64 0, .bool false, .string ⟨#[]⟩, .slice none 0 0] 34 := (Only.refl HS2.out.r).set 2 (.int .i64 3)
  have HE := Aside0.mk (show doS l x = (l, noReply x.f0 3) by
    unfold doS
    rw [if_neg (by rw [HK.out]; decide), if_pos ⟨by unfold hasKey; rw [d1, d2]; rfl, HO.out⟩])
  have HV3 := Aside0.mk (own_only (Kd.R_lower HVA.out HS1.out.below.size) HS2.out.r h1 (by decide))
  have HS3 := Aside0.mk (HS2.out.to h1)
  clear h1
  have ho := HO.out
  rw [okCall_sizes] at ho
  by_cases g1 : 1 ≤ x.f1.size
  · by_cases g2 : x.f1.size ≤ 512
    · have g3 : ¬ x.f2.size ≤ 2048 := by
        intro g3
        rw [decide_eq_true g1, decide_eq_true g2, decide_eq_true g3] at ho
        cases ho
      have e1 : decide ((x.f1.size : Int) < 1) = false := decide_eq_false (by omega)
      have e2 : decide (512 < (x.f1.size : Int)) = false := decide_eq_false (by omega)
      have e3 : decide (2048 < (x.f2.size : Int)) = true := decide_eq_true (by omega)
      clear ho
      go_wp2
      go_region
      go_wp2
      exact finR HE.out HS3.out HV3.out (noCells _ _) (fun k hk => by simp [Value.ownBlock]) rfl rfl rfl
    · have e1 : decide ((x.f1.size : Int) < 1) = false := decide_eq_false (by omega)
      have e2 : decide (512 < (x.f1.size : Int)) = true := decide_eq_true (by omega)
      clear ho
      go_wp2
      go_region
      go_wp2
      exact finR HE.out HS3.out HV3.out (noCells _ _) (fun k hk => by simp [Value.ownBlock]) rfl rfl rfl
  · have e1 : decide ((x.f1.size : Int) < 1) = true := decide_eq_true (by omega)
    clear ho
    go_wp2
    go_region
    go_wp2
    exact finR HE.out HS3.out HV3.out (noCells _ _) (fun k hk => by simp [Value.ownBlock]) rfl rfl rfl
end Go.Proofs.Ytcnmefocbjilbaa.G
namespace Go.Proofs.Ytcnmefocbjilbaa.G
open Go.RowKit Go.Proofs.YtcnmefocbjilbaaW.PrintWords Go.Proofs.YtcnmefocbjilbaaW.PrintLast Go.Proofs.YtcnmefocbjilbaaW.PrintMore
open Go.Proofs.YtcnmefocbjilbaaFlat
set_option maxHeartbeats 2000000
set_option maxRecDepth 20000

/-- The last place of a key, among the first k. -/
def LastIs (l : List S40) (key : ByteArray) (k : Nat) (a : Int) : Prop := (a = -1 ∧ ∀ i : Nat, i < k → isKey key (rd_T40 l i) = false) ∨ (∃ n : Nat, a = n ∧ n < k ∧ isKey key (rd_T40 l n) = true)
theorem LastIs.no {l : List S40} {key : ByteArray} {k : Nat} {a : Int} (h : LastIs l key k a) (hk : isKey key (rd_T40 l k) = false) : LastIs l key (k + 1) a := by
  rcases h with ⟨rfl, h⟩ | ⟨n, rfl, hn, h⟩
  · refine .inl ⟨rfl, fun i hi => ?_⟩
    rcases Nat.lt_or_ge i k with h1 | h1
    · exact h i h1
    · obtain rfl : i = k := by omega
      exact hk
  · exact .inr ⟨n, rfl, by omega, h⟩
theorem LastIs.yes {l : List S40} {key : ByteArray} {k : Nat} (hk : isKey key (rd_T40 l k) = true) : LastIs l key (k + 1) k := .inr ⟨k, rfl, by omega, hk⟩
theorem last_none {l : List S40} {key : ByteArray} (hr : rightB l = true) (h : ∀ i : Nat, i < l.length → isKey key (rd_T40 l i) = false) : findV l key = none := by
  unfold findV
  rw [if_pos hr]
  exact find_none h
theorem last_some {l : List S40} {key : ByteArray} (hr : rightB l = true) {n : Nat} (hn : n < l.length) (h : isKey key (rd_T40 l n) = true) : findV l key = some (rd_T40 l n).f1 := by
  unfold findV
  rw [if_pos hr]
  exact find_some hr hn h
theorem setV {W : World} {base g cap : Nat} {xs : List S40} (h : Own W base (.slice (some ⟨g, 0, none⟩) xs.length cap) xs) (i : Nat) (hi : i < xs.length) (q : ByteArray) :
    Own (W.setCell ⟨g, i * 2 + 1, none⟩ (.string q)) base (.slice (some ⟨g, 0, none⟩) xs.length cap) (xs.set i ⟨(rd_T40 xs i).f0, q⟩) ∧ W.grownBy (W.setCell ⟨g, i * 2 + 1, none⟩ (.string q)) (some g) ∧
    (∃ u, W.cell? ⟨g, i * 2 + 1, none⟩ = some u) ∧ W.frozen? ⟨g, i * 2 + 1, none⟩ = false := by
  obtain ⟨c, hc1, hc2, hc3, hc4⟩ := Kd.R_elem h z40 (i : Int) (by omega) (by omega)
  obtain rfl := k40_openM hc2
  have hs := Kd.R_seg h (i : Int) (by omega) (by omega) (seg := [.string q]) (j := 1) hc1 hc3 (show 2 ≤ 2 by decide) (x' := ⟨(rd_T40 xs i).f0, q⟩) (okp := fun _ => False) (k40_mkM _ _ _ (⟨(rd_T40 xs i).f0, q⟩ : S40)) (fun _ hk => hk.elim)
  have e1 := hc3 1 _ rfl
  have f1 := hc4 1
  simp only [Int.toNat_natCast, show k40.sz = 2 from rfl] at hs e1 f1
  exact ⟨hs.1, hs.2, ⟨_, e1⟩, f1⟩
theorem ok_facts {x : S26} (h : okCall x = true) : decide ((x.f1.size : Int) < 1) = false ∧ decide (512 < (x.f1.size : Int)) = false ∧ decide (2048 < (x.f2.size : Int)) = false := by
  rw [okCall_sizes, Bool.and_eq_true, Bool.and_eq_true, decide_eq_true_eq, decide_eq_true_eq, decide_eq_true_eq] at h
  exact ⟨decide_eq_false (by omega), decide_eq_false (by omega), decide_eq_false (by omega)⟩
theorem doS_key {l : List S40} {x : S26} (hr : rightB l = true) (h2 : 2 ≤ x.f0) (h5 : x.f0 ≤ 5) (ho : okCall x = true) (P : List S40 × S34)
    (h : (if x.f0 = 2 then (l, ⟨0, x.f0, 0, 0, isIn x.f1 l, (findV l x.f1).getD ⟨#[]⟩, []⟩)
  else if x.f0 = 3 then (if isIn x.f1 l then (l, noReply x.f0 8) else (putS l ⟨x.f1, x.f2⟩, noReply x.f0 0))
  else if x.f0 = 4 then (if isIn x.f1 l then (putS l ⟨x.f1, x.f2⟩, noReply x.f0 0) else (l, noReply x.f0 7))
  else if x.f0 = 5 then (if isIn x.f1 l then (l.filter (fun y => !isKey x.f1 y), noReply x.f0 0) else (l, noReply x.f0 7))
  else if x.f0 = 6 then (if scanOk x then (l, ⟨0, x.f0, 0, 0, decide (x.f4 < (scanAll l x).length), ⟨#[]⟩, (scanAll l x).take x.f4.toNat⟩) else (l, noReply x.f0 2))
  else (l, noReply x.f0 2)) = P) : doS l x = P := by
  unfold doS
  rw [if_neg (by rw [hr]; decide), if_neg (by rw [ho]; simp)]
  exact h
theorem refDo_get (A : Option Addr) (c : Nat) (l : List S40) (x : S26) (w : World) (HR : Kd.C k40 w A l.length l) (hl : l.length < 2199023255551) (hr : rightB l = true) (hf : x.f0 = 2) (ho : okCall x = true) :
    Calls Try.prog 12 #[.slice A l.length c, .agg (cellsC x)] w (DoPost l x w) := by
  have HR0 := Aside0.mk HR
  have HK := Aside0.mk hr
  have HF := Aside0.mk hf
  have HO := Aside0.mk ho
  clear HR hr hf ho
  unfold cellsC
  go_enter Try.func12, Try.ntmps12
  go_wp2_with fail
  show Calls Try.prog 16 _ (startR x w) _
  refine (ref10_Right_calls A c l _ (Kd.C_below HR0.out (startR_is x w).below)).mono ?_
  rintro e w1 ⟨he, hb⟩
  rw [HK.out] at he
  obtain rfl := he
  have HS1 := Aside0.mk ((startR_is x w).mv hb)
  clear hb
  go_wp2_with fail
  refine (Copy_calls A c l _ (Kd.C_below HR0.out HS1.out.below) (by omega)).mono ?_
  rintro e w2 ⟨va, rfl, hva, hb⟩
  obtain ⟨VA, vn, rfl⟩ := Kd.R_slice hva
  have HS2 := Aside0.mk (HS1.out.mv hb)
  have HVA := Aside0.mk hva
  have HB12 := Aside0.mk hb
  clear hb hva
  have x0 := (blk_cell HS2.out.x 0).trans rfl
  have x1 := (blk_cell HS2.out.x 1).trans rfl
  have x2 := (blk_cell HS2.out.x 2).trans rfl
  have x3 := (blk_cell HS2.out.x 3).trans rfl
  have x4 := (blk_cell HS2.out.x 4).trans rfl
  have x5 := (blk_cell HS2.out.x 5).trans rfl
  have x6 := (blk_cell HS2.out.x 6).trans rfl
  have d1 : decide (2 ≤ x.f0) = true := decide_eq_true (by have := HF.out; omega)
  have d2 : decide (x.f0 ≤ 5) = true := decide_eq_true (by have := HF.out; omega)
  have g1 : decide ((x.f1.size : Int) < 1) = false := (ok_facts HO.out).1
  have g2 : decide (512 < (x.f1.size : Int)) = false := (ok_facts HO.out).2.1
  have g3 : decide (2048 < (x.f2.size : Int)) = false := (ok_facts HO.out).2.2
  go_wp2_with fail
  go_loopw [8, 9] (fun v8 v9 w' => ∃ (k : Nat) (a : Int), k ≤ l.length ∧ v8 = .int .i64 a ∧ v9 = .int .i64 k ∧ Aside0 (LastIs l x.f1 k a) ∧ Aside0 (Below w2.heap.size w2 w')) (fun _ v9 _ => l.length - (intOf v9).toNat)
  case atStart => exact ⟨0, -1, by omega, rfl, rfl, ⟨.inl ⟨rfl, fun i h => absurd h (by omega)⟩⟩, ⟨Below.refl _ _⟩⟩
  case round =>
    obtain ⟨k, at_, hk, rfl, rfl, HLs, HB⟩ := hrel
    by_cases hlt : k < l.length
    · obtain ⟨ad, rfl, hx0, hx1⟩ := at_T40 HR0.out k (by omega) (by omega)
      simp only [Int.toNat_natCast] at hx0 hx1
      replace hx0 := pw_cell_below HB.out (pw_cell_below HS2.out.below hx0)
      have y1 := pw_cell_below HB.out ((blk_cell HS2.out.x 1).trans rfl)
      clear hx1
      cases hs : ((rd_T40 l k).f0.toList == x.f1.toList)
      · have Hs := Aside0.mk hs
        go_wp2_with fail
        go_quiet (fail)
        go_wp2_with fail
        go_roundw
        case rel => exact ⟨k + 1, at_, by omega, rfl, by go_num, ⟨HLs.out.no Hs.out⟩, ⟨pw_below_drewN HB.out _⟩⟩
        case measure => simp [intOf]; omega
      · have Hs := Aside0.mk hs
        go_wp2_with fail
        go_quiet (fail)
        go_wp2_with fail
        go_roundw
        case rel => exact ⟨k + 1, k, by omega, rfl, by go_num, ⟨LastIs.yes Hs.out⟩, ⟨pw_below_drewN HB.out _⟩⟩
        case measure => simp [intOf]; omega
    · obtain rfl : k = l.length := by omega
      clear hlt
      have HS3 := Aside0.mk (HS2.out.mv HB.out)
      have HV3 := Aside0.mk (Kd.R_below (Kd.R_lower HVA.out HS1.out.below.size) HB.out)
      have x0 := (blk_cell HS3.out.x 0).trans rfl
      have x1 := (blk_cell HS3.out.x 1).trans rfl
      have x2 := (blk_cell HS3.out.x 2).trans rfl
      have x3 := (blk_cell HS3.out.x 3).trans rfl
      have x4 := (blk_cell HS3.out.x 4).trans rfl
      have x5 := (blk_cell HS3.out.x 5).trans rfl
      have x6 := (blk_cell HS3.out.x 6).trans rfl
      have r0 := (blk_cell HS3.out.r 0).trans rfl
      have f0 := blk_frozen HS3.out.r 0
      have q0 := (blk_cell HS3.out.res 0).trans rfl
      have p0 := blk_frozen HS3.out.res 0
      have r1 := (blk_cell HS3.out.r 1).trans rfl
      have f1 := blk_frozen HS3.out.r 1
      have q1 := (blk_cell HS3.out.res 1).trans rfl
      have p1 := blk_frozen HS3.out.res 1
      have r2 := (blk_cell HS3.out.r 2).trans rfl
      have f2 := blk_frozen HS3.out.r 2
      have q2 := (blk_cell HS3.out.res 2).trans rfl
      have p2 := blk_frozen HS3.out.res 2
      have r3 := (blk_cell HS3.out.r 3).trans rfl
      have f3 := blk_frozen HS3.out.r 3
      have q3 := (blk_cell HS3.out.res 3).trans rfl
      have p3 := blk_frozen HS3.out.res 3
      have r4 := (blk_cell HS3.out.r 4).trans rfl
      have f4 := blk_frozen HS3.out.r 4
      have q4 := (blk_cell HS3.out.res 4).trans rfl
      have p4 := blk_frozen HS3.out.res 4
      have r5 := (blk_cell HS3.out.r 5).trans rfl
      have f5 := blk_frozen HS3.out.r 5
      have q5 := (blk_cell HS3.out.res 5).trans rfl
      have p5 := blk_frozen HS3.out.res 5
      have r6 := (blk_cell HS3.out.r 6).trans rfl
      have f6 := blk_frozen HS3.out.r 6
      have q6 := (blk_cell HS3.out.res 6).trans rfl
      have p6 := blk_frozen HS3.out.res 6
      have e2 : (x.f0 == 2) = true := beq_iff_eq.mpr HF.out
      rcases HLs.out with ⟨rfl, hno⟩ | ⟨n, rfl, hn, hyes⟩
      · have NF := Aside0.mk (last_none HK.out hno)
        clear hno HLs
        go_wp2
        go_region
        go_wp2
        exact finR (doS_key HK.out (by have := HF.out; omega) (by have := HF.out; omega) HO.out _ (by rw [if_pos HF.out]; unfold isIn; rw [NF.out]; rfl)) HS3.out HV3.out (noCells _ _) (fun k hk => by simp [Value.ownBlock]) rfl rfl rfl
      · have NF := Aside0.mk (last_some HK.out hn hyes)
        have hn0 : (0 : Int) ≤ (n : Int) := by omega
        have h1 : Only wr _ (w.heap.size + 1 + 1) #[.int .i64 0, .int .u8 x.f0, .int .i64 0, .int .u64 0, .bool true, .string ⟨#[]⟩, .slice none 0 0] 34 := (Only.refl HS3.out.r).set 4 (.bool true)
        have H1 := Aside0.mk h1
        have h2 : Only _ _ (w.heap.size + 1 + 1) #[.int .i64 0, .int .u8 x.f0, .int .i64 0, .int .u64 0, .bool true, .string (rd_T40 l n).f1, .slice none 0 0] 34 := (Only.refl h1.here).set 5 (.string (rd_T40 l n).f1)
        have H2 := Aside0.mk h2
        obtain ⟨ad, rfl, z0, z1⟩ := at_T40 HR0.out n (by omega) (by omega)
        simp only [Int.toNat_natCast] at z0 z1
        have z2 := pw_cell_below (HS3.out.to h1).below z1
        have z3 := pw_cell_below HS3.out.below z1
        clear z0 z1 h1 h2 hyes HLs
        go_wp2
        go_region
        go_wp2
        exact finR (doS_key HK.out (by have := HF.out; omega) (by have := HF.out; omega) HO.out _ (by rw [if_pos HF.out]; unfold isIn; rw [NF.out]; rfl)) ((HS3.out.to H1.out).to H2.out) (own_only (own_only HV3.out HS3.out.r H1.out (by decide)) H1.out.here H2.out (by decide)) (noCells _ _) (fun k hk => by simp [Value.ownBlock]) rfl rfl rfl
end Go.Proofs.Ytcnmefocbjilbaa.G
namespace Go.Proofs.Ytcnmefocbjilbaa.G
open Go.RowKit Go.Proofs.YtcnmefocbjilbaaW.PrintWords Go.Proofs.YtcnmefocbjilbaaW.PrintLast Go.Proofs.YtcnmefocbjilbaaW.PrintMore
open Go.Proofs.YtcnmefocbjilbaaFlat
set_option maxHeartbeats 2000000
set_option maxRecDepth 20000

theorem refDo_insert (A : Option Addr) (c : Nat) (l : List S40) (x : S26) (w : World) (HR : Kd.C k40 w A l.length l) (hl : l.length < 2199023255551) (hr : rightB l = true) (hf : x.f0 = 3) (ho : okCall x = true) :
    Calls Try.prog 12 #[.slice A l.length c, .agg (cellsC x)] w (DoPost l x w) := by
  have HR0 := Aside0.mk HR
  have HK := Aside0.mk hr
  have HF := Aside0.mk hf
  have HO := Aside0.mk ho
  clear HR hr hf ho
  unfold cellsC
  go_enter Try.func12, Try.ntmps12
  go_wp2_with fail
  show Calls Try.prog 16 _ (startR x w) _
  refine (ref10_Right_calls A c l _ (Kd.C_below HR0.out (startR_is x w).below)).mono ?_
  rintro e w1 ⟨he, hb⟩
  rw [HK.out] at he
  obtain rfl := he
  have HS1 := Aside0.mk ((startR_is x w).mv hb)
  clear hb
  go_wp2_with fail
  refine (Copy_calls A c l _ (Kd.C_below HR0.out HS1.out.below) (by omega)).mono ?_
  rintro e w2 ⟨va, rfl, hva, hb⟩
  obtain ⟨VA, vn, rfl⟩ := Kd.R_slice hva
  have HS2 := Aside0.mk (HS1.out.mv hb)
  have HVA := Aside0.mk hva
  have HB12 := Aside0.mk hb
  clear hb hva
  have x0 := (blk_cell HS2.out.x 0).trans rfl
  have x1 := (blk_cell HS2.out.x 1).trans rfl
  have x2 := (blk_cell HS2.out.x 2).trans rfl
  have x3 := (blk_cell HS2.out.x 3).trans rfl
  have x4 := (blk_cell HS2.out.x 4).trans rfl
  have x5 := (blk_cell HS2.out.x 5).trans rfl
  have x6 := (blk_cell HS2.out.x 6).trans rfl
  have d1 : decide (2 ≤ x.f0) = true := decide_eq_true (by have := HF.out; omega)
  have d2 : decide (x.f0 ≤ 5) = true := decide_eq_true (by have := HF.out; omega)
  have g1 : decide ((x.f1.size : Int) < 1) = false := (ok_facts HO.out).1
  have g2 : decide (512 < (x.f1.size : Int)) = false := (ok_facts HO.out).2.1
  have g3 : decide (2048 < (x.f2.size : Int)) = false := (ok_facts HO.out).2.2
  go_wp2_with fail
  go_loopw [8, 9] (fun v8 v9 w' => ∃ (k : Nat) (a : Int), k ≤ l.length ∧ v8 = .int .i64 a ∧ v9 = .int .i64 k ∧ Aside0 (LastIs l x.f1 k a) ∧ Aside0 (Below w2.heap.size w2 w')) (fun _ v9 _ => l.length - (intOf v9).toNat)
  case atStart => exact ⟨0, -1, by omega, rfl, rfl, ⟨.inl ⟨rfl, fun i h => absurd h (by omega)⟩⟩, ⟨Below.refl _ _⟩⟩
  case round =>
    obtain ⟨k, at_, hk, rfl, rfl, HLs, HB⟩ := hrel
    by_cases hlt : k < l.length
    · obtain ⟨ad, rfl, hx0, hx1⟩ := at_T40 HR0.out k (by omega) (by omega)
      simp only [Int.toNat_natCast] at hx0 hx1
      replace hx0 := pw_cell_below HB.out (pw_cell_below HS2.out.below hx0)
      have y1 := pw_cell_below HB.out ((blk_cell HS2.out.x 1).trans rfl)
      clear hx1
      cases hs : ((rd_T40 l k).f0.toList == x.f1.toList)
      · have Hs := Aside0.mk hs
        go_wp2_with fail
        go_quiet (fail)
        go_wp2_with fail
        go_roundw
        case rel => exact ⟨k + 1, at_, by omega, rfl, by go_num, ⟨HLs.out.no Hs.out⟩, ⟨pw_below_drewN HB.out _⟩⟩
        case measure => simp [intOf]; omega
      · have Hs := Aside0.mk hs
        go_wp2_with fail
        go_quiet (fail)
        go_wp2_with fail
        go_roundw
        case rel => exact ⟨k + 1, k, by omega, rfl, by go_num, ⟨LastIs.yes Hs.out⟩, ⟨pw_below_drewN HB.out _⟩⟩
        case measure => simp [intOf]; omega
    · obtain rfl : k = l.length := by omega
      clear hlt
      have HS3 := Aside0.mk (HS2.out.mv HB.out)
      have HV3 := Aside0.mk (Kd.R_below (Kd.R_lower HVA.out HS1.out.below.size) HB.out)
      have x0 := (blk_cell HS3.out.x 0).trans rfl
      have x1 := (blk_cell HS3.out.x 1).trans rfl
      have x2 := (blk_cell HS3.out.x 2).trans rfl
      have x3 := (blk_cell HS3.out.x 3).trans rfl
      have x4 := (blk_cell HS3.out.x 4).trans rfl
      have x5 := (blk_cell HS3.out.x 5).trans rfl
      have x6 := (blk_cell HS3.out.x 6).trans rfl
      have r0 := (blk_cell HS3.out.r 0).trans rfl
      have f0 := blk_frozen HS3.out.r 0
      have q0 := (blk_cell HS3.out.res 0).trans rfl
      have p0 := blk_frozen HS3.out.res 0
      have r1 := (blk_cell HS3.out.r 1).trans rfl
      have f1 := blk_frozen HS3.out.r 1
      have q1 := (blk_cell HS3.out.res 1).trans rfl
      have p1 := blk_frozen HS3.out.res 1
      have r2 := (blk_cell HS3.out.r 2).trans rfl
      have f2 := blk_frozen HS3.out.r 2
      have q2 := (blk_cell HS3.out.res 2).trans rfl
      have p2 := blk_frozen HS3.out.res 2
      have r3 := (blk_cell HS3.out.r 3).trans rfl
      have f3 := blk_frozen HS3.out.r 3
      have q3 := (blk_cell HS3.out.res 3).trans rfl
      have p3 := blk_frozen HS3.out.res 3
      have r4 := (blk_cell HS3.out.r 4).trans rfl
      have f4 := blk_frozen HS3.out.r 4
      have q4 := (blk_cell HS3.out.res 4).trans rfl
      have p4 := blk_frozen HS3.out.res 4
      have r5 := (blk_cell HS3.out.r 5).trans rfl
      have f5 := blk_frozen HS3.out.r 5
      have q5 := (blk_cell HS3.out.res 5).trans rfl
      have p5 := blk_frozen HS3.out.res 5
      have r6 := (blk_cell HS3.out.r 6).trans rfl
      have f6 := blk_frozen HS3.out.r 6
      have q6 := (blk_cell HS3.out.res 6).trans rfl
      have p6 := blk_frozen HS3.out.res 6
      have e2 : (x.f0 == 2) = false := beq_eq_false_iff_ne.mpr (by have := HF.out; omega)
      have e3 : (x.f0 == 3) = true := beq_iff_eq.mpr HF.out
      rcases HLs.out with ⟨rfl, hno⟩ | ⟨n, rfl, hn, hyes⟩
      · have NF := Aside0.mk (last_none HK.out hno)
        clear hno HLs
        go_wp2_with fail
        refine (refPut_calls A c l x.f1 x.f2 _ (Kd.C_below HR0.out HS3.out.below) (by omega) (okPut HK.out HO.out)).mono ?_
        rintro e w4 ⟨v4, rfl, hv4, hb4⟩
        obtain ⟨A4, n4, rfl⟩ := Kd.R_slice hv4
        have HS4 := Aside0.mk (HS3.out.mv hb4)
        have HV4 := Aside0.mk (Kd.R_lower hv4 HS3.out.below.size)
        clear hb4 hv4 x0 x1 x2 x3 x4 x5 x6 r0 r1 r2 r3 r4 r5 r6 q0 q1 q2 q3 q4 q5 q6 f0 f1 f2 f3 f4 f5 f6 p0 p1 p2 p3 p4 p5 p6
        have r0 := (blk_cell HS4.out.r 0).trans rfl
        have f0 := blk_frozen HS4.out.r 0
        have q0 := (blk_cell HS4.out.res 0).trans rfl
        have p0 := blk_frozen HS4.out.res 0
        have r1 := (blk_cell HS4.out.r 1).trans rfl
        have f1 := blk_frozen HS4.out.r 1
        have q1 := (blk_cell HS4.out.res 1).trans rfl
        have p1 := blk_frozen HS4.out.res 1
        have r2 := (blk_cell HS4.out.r 2).trans rfl
        have f2 := blk_frozen HS4.out.r 2
        have q2 := (blk_cell HS4.out.res 2).trans rfl
        have p2 := blk_frozen HS4.out.res 2
        have r3 := (blk_cell HS4.out.r 3).trans rfl
        have f3 := blk_frozen HS4.out.r 3
        have q3 := (blk_cell HS4.out.res 3).trans rfl
        have p3 := blk_frozen HS4.out.res 3
        have r4 := (blk_cell HS4.out.r 4).trans rfl
        have f4 := blk_frozen HS4.out.r 4
        have q4 := (blk_cell HS4.out.res 4).trans rfl
        have p4 := blk_frozen HS4.out.res 4
        have r5 := (blk_cell HS4.out.r 5).trans rfl
        have f5 := blk_frozen HS4.out.r 5
        have q5 := (blk_cell HS4.out.res 5).trans rfl
        have p5 := blk_frozen HS4.out.res 5
        have r6 := (blk_cell HS4.out.r 6).trans rfl
        have f6 := blk_frozen HS4.out.r 6
        have q6 := (blk_cell HS4.out.res 6).trans rfl
        have p6 := blk_frozen HS4.out.res 6
        go_wp2
        go_region
        go_wp2
        exact finR (doS_key HK.out (by have := HF.out; omega) (by have := HF.out; omega) HO.out _ (by rw [if_neg (by rw [HF.out]; decide), if_pos HF.out]; unfold isIn; rw [NF.out]; rfl)) HS4.out HV4.out (noCells _ _) (fun k hk => by simp [Value.ownBlock]) rfl rfl rfl
      · have NF := Aside0.mk (last_some HK.out hn hyes)
        have hn0 : (0 : Int) ≤ (n : Int) := by omega
        clear hyes HLs
        have h1 : Only wr _ (w.heap.size + 1 + 1) #[.int .i64 0, .int .u8 x.f0, .int .i64 8, .int .u64 0, .bool false, .string ⟨#[]⟩, .slice none 0 0] 34 := (Only.refl HS3.out.r).set 2 (.int .i64 8)
        have H1 := Aside0.mk h1
        clear h1
        go_wp2
        go_region
        go_wp2
        exact finR (doS_key HK.out (by have := HF.out; omega) (by have := HF.out; omega) HO.out _ (by rw [if_neg (by rw [HF.out]; decide), if_pos HF.out]; unfold isIn; rw [NF.out]; rfl)) (HS3.out.to H1.out) (own_only HV3.out HS3.out.r H1.out (by decide)) (noCells _ _) (fun k hk => by simp [Value.ownBlock]) rfl rfl rfl
end Go.Proofs.Ytcnmefocbjilbaa.G
namespace Go.Proofs.Ytcnmefocbjilbaa.G
open Go.RowKit Go.Proofs.YtcnmefocbjilbaaW.PrintWords Go.Proofs.YtcnmefocbjilbaaW.PrintLast Go.Proofs.YtcnmefocbjilbaaW.PrintMore
open Go.Proofs.YtcnmefocbjilbaaFlat
set_option maxHeartbeats 2000000
set_option maxRecDepth 20000

theorem refDo_delete (A : Option Addr) (c : Nat) (l : List S40) (x : S26) (w : World) (HR : Kd.C k40 w A l.length l) (hl : l.length < 2199023255551) (hr : rightB l = true) (hf : x.f0 = 5) (ho : okCall x = true) :
    Calls Try.prog 12 #[.slice A l.length c, .agg (cellsC x)] w (DoPost l x w) := by
  have HR0 := Aside0.mk HR
  have HK := Aside0.mk hr
  have HF := Aside0.mk hf
  have HO := Aside0.mk ho
  clear HR hr hf ho
  unfold cellsC
  go_enter Try.func12, Try.ntmps12
  go_wp2_with fail
  show Calls Try.prog 16 _ (startR x w) _
  refine (ref10_Right_calls A c l _ (Kd.C_below HR0.out (startR_is x w).below)).mono ?_
  rintro e w1 ⟨he, hb⟩
  rw [HK.out] at he
  obtain rfl := he
  have HS1 := Aside0.mk ((startR_is x w).mv hb)
  clear hb
  go_wp2_with fail
  refine (Copy_calls A c l _ (Kd.C_below HR0.out HS1.out.below) (by omega)).mono ?_
  rintro e w2 ⟨va, rfl, hva, hb⟩
  obtain ⟨VA, vn, rfl⟩ := Kd.R_slice hva
  have HS2 := Aside0.mk (HS1.out.mv hb)
  have HVA := Aside0.mk hva
  have HB12 := Aside0.mk hb
  clear hb hva
  have x0 := (blk_cell HS2.out.x 0).trans rfl
  have x1 := (blk_cell HS2.out.x 1).trans rfl
  have x2 := (blk_cell HS2.out.x 2).trans rfl
  have x3 := (blk_cell HS2.out.x 3).trans rfl
  have x4 := (blk_cell HS2.out.x 4).trans rfl
  have x5 := (blk_cell HS2.out.x 5).trans rfl
  have x6 := (blk_cell HS2.out.x 6).trans rfl
  have d1 : decide (2 ≤ x.f0) = true := decide_eq_true (by have := HF.out; omega)
  have d2 : decide (x.f0 ≤ 5) = true := decide_eq_true (by have := HF.out; omega)
  have g1 : decide ((x.f1.size : Int) < 1) = false := (ok_facts HO.out).1
  have g2 : decide (512 < (x.f1.size : Int)) = false := (ok_facts HO.out).2.1
  have g3 : decide (2048 < (x.f2.size : Int)) = false := (ok_facts HO.out).2.2
  go_wp2_with fail
  go_loopw [8, 9] (fun v8 v9 w' => ∃ (k : Nat) (a : Int), k ≤ l.length ∧ v8 = .int .i64 a ∧ v9 = .int .i64 k ∧ Aside0 (LastIs l x.f1 k a) ∧ Aside0 (Below w2.heap.size w2 w')) (fun _ v9 _ => l.length - (intOf v9).toNat)
  case atStart => exact ⟨0, -1, by omega, rfl, rfl, ⟨.inl ⟨rfl, fun i h => absurd h (by omega)⟩⟩, ⟨Below.refl _ _⟩⟩
  case round =>
    obtain ⟨k, at_, hk, rfl, rfl, HLs, HB⟩ := hrel
    by_cases hlt : k < l.length
    · obtain ⟨ad, rfl, hx0, hx1⟩ := at_T40 HR0.out k (by omega) (by omega)
      simp only [Int.toNat_natCast] at hx0 hx1
      replace hx0 := pw_cell_below HB.out (pw_cell_below HS2.out.below hx0)
      have y1 := pw_cell_below HB.out ((blk_cell HS2.out.x 1).trans rfl)
      clear hx1
      cases hs : ((rd_T40 l k).f0.toList == x.f1.toList)
      · have Hs := Aside0.mk hs
        go_wp2_with fail
        go_quiet (fail)
        go_wp2_with fail
        go_roundw
        case rel => exact ⟨k + 1, at_, by omega, rfl, by go_num, ⟨HLs.out.no Hs.out⟩, ⟨pw_below_drewN HB.out _⟩⟩
        case measure => simp [intOf]; omega
      · have Hs := Aside0.mk hs
        go_wp2_with fail
        go_quiet (fail)
        go_wp2_with fail
        go_roundw
        case rel => exact ⟨k + 1, k, by omega, rfl, by go_num, ⟨LastIs.yes Hs.out⟩, ⟨pw_below_drewN HB.out _⟩⟩
        case measure => simp [intOf]; omega
    · obtain rfl : k = l.length := by omega
      clear hlt
      have HS3 := Aside0.mk (HS2.out.mv HB.out)
      have HV3 := Aside0.mk (Kd.R_below (Kd.R_lower HVA.out HS1.out.below.size) HB.out)
      have x0 := (blk_cell HS3.out.x 0).trans rfl
      have x1 := (blk_cell HS3.out.x 1).trans rfl
      have x2 := (blk_cell HS3.out.x 2).trans rfl
      have x3 := (blk_cell HS3.out.x 3).trans rfl
      have x4 := (blk_cell HS3.out.x 4).trans rfl
      have x5 := (blk_cell HS3.out.x 5).trans rfl
      have x6 := (blk_cell HS3.out.x 6).trans rfl
      have r0 := (blk_cell HS3.out.r 0).trans rfl
      have f0 := blk_frozen HS3.out.r 0
      have q0 := (blk_cell HS3.out.res 0).trans rfl
      have p0 := blk_frozen HS3.out.res 0
      have r1 := (blk_cell HS3.out.r 1).trans rfl
      have f1 := blk_frozen HS3.out.r 1
      have q1 := (blk_cell HS3.out.res 1).trans rfl
      have p1 := blk_frozen HS3.out.res 1
      have r2 := (blk_cell HS3.out.r 2).trans rfl
      have f2 := blk_frozen HS3.out.r 2
      have q2 := (blk_cell HS3.out.res 2).trans rfl
      have p2 := blk_frozen HS3.out.res 2
      have r3 := (blk_cell HS3.out.r 3).trans rfl
      have f3 := blk_frozen HS3.out.r 3
      have q3 := (blk_cell HS3.out.res 3).trans rfl
      have p3 := blk_frozen HS3.out.res 3
      have r4 := (blk_cell HS3.out.r 4).trans rfl
      have f4 := blk_frozen HS3.out.r 4
      have q4 := (blk_cell HS3.out.res 4).trans rfl
      have p4 := blk_frozen HS3.out.res 4
      have r5 := (blk_cell HS3.out.r 5).trans rfl
      have f5 := blk_frozen HS3.out.r 5
      have q5 := (blk_cell HS3.out.res 5).trans rfl
      have p5 := blk_frozen HS3.out.res 5
      have r6 := (blk_cell HS3.out.r 6).trans rfl
      have f6 := blk_frozen HS3.out.r 6
      have q6 := (blk_cell HS3.out.res 6).trans rfl
      have p6 := blk_frozen HS3.out.res 6
      have e2 : (x.f0 == 2) = false := beq_eq_false_iff_ne.mpr (by have := HF.out; omega)
      have e3 : (x.f0 == 3) = false := beq_eq_false_iff_ne.mpr (by have := HF.out; omega)
      have e4 : (x.f0 == 4) = false := beq_eq_false_iff_ne.mpr (by have := HF.out; omega)
      have e5 : (x.f0 == 5) = true := beq_iff_eq.mpr HF.out
      have e4' : decide (x.f0 = 4) = false := decide_eq_false (by have := HF.out; omega)
      rcases HLs.out with ⟨rfl, hno⟩ | ⟨n, rfl, hn, hyes⟩
      · have NF := Aside0.mk (last_none HK.out hno)
        clear hno HLs
        have h1 : Only wr _ (w.heap.size + 1 + 1) #[.int .i64 0, .int .u8 x.f0, .int .i64 7, .int .u64 0, .bool false, .string ⟨#[]⟩, .slice none 0 0] 34 := (Only.refl HS3.out.r).set 2 (.int .i64 7)
        have H1 := Aside0.mk h1
        clear h1
        go_wp2
        go_region
        go_wp2
        exact finR (doS_key HK.out (by have := HF.out; omega) (by have := HF.out; omega) HO.out _ (by rw [if_neg (by rw [HF.out]; decide), if_neg (by rw [HF.out]; decide), if_neg (by rw [HF.out]; decide), if_pos HF.out]; unfold isIn; rw [NF.out]; rfl)) (HS3.out.to H1.out) (own_only HV3.out HS3.out.r H1.out (by decide)) (noCells _ _) (fun k hk => by simp [Value.ownBlock]) rfl rfl rfl
      · have NF := Aside0.mk (last_some HK.out hn hyes)
        have hn0 : (0 : Int) ≤ (n : Int) := by omega
        have hn1 : ¬ ((n : Int) < 0) := by omega
        clear hyes HLs
        go_wp2_with fail
        refine (refDelete_calls A c l x.f1 _ (Kd.C_below HR0.out HS3.out.below) (by omega) HK.out).mono ?_
        rintro e w4 ⟨v4, rfl, hv4, hb4⟩
        obtain ⟨A4, n4, rfl⟩ := Kd.R_slice hv4
        have HS4 := Aside0.mk (HS3.out.mv hb4)
        have HV4 := Aside0.mk (Kd.R_lower hv4 HS3.out.below.size)
        clear hb4 hv4 x0 x1 x2 x3 x4 x5 x6 r0 r1 r2 r3 r4 r5 r6 q0 q1 q2 q3 q4 q5 q6 f0 f1 f2 f3 f4 f5 f6 p0 p1 p2 p3 p4 p5 p6
        generalize hT : l.filter (fun y => !isKey x.f1 y) = T at HV4 ⊢
        have HT := Aside0.mk hT
        clear hT
        have r0 := (blk_cell HS4.out.r 0).trans rfl
        have f0 := blk_frozen HS4.out.r 0
        have q0 := (blk_cell HS4.out.res 0).trans rfl
        have p0 := blk_frozen HS4.out.res 0
        have r1 := (blk_cell HS4.out.r 1).trans rfl
        have f1 := blk_frozen HS4.out.r 1
        have q1 := (blk_cell HS4.out.res 1).trans rfl
        have p1 := blk_frozen HS4.out.res 1
        have r2 := (blk_cell HS4.out.r 2).trans rfl
        have f2 := blk_frozen HS4.out.r 2
        have q2 := (blk_cell HS4.out.res 2).trans rfl
        have p2 := blk_frozen HS4.out.res 2
        have r3 := (blk_cell HS4.out.r 3).trans rfl
        have f3 := blk_frozen HS4.out.r 3
        have q3 := (blk_cell HS4.out.res 3).trans rfl
        have p3 := blk_frozen HS4.out.res 3
        have r4 := (blk_cell HS4.out.r 4).trans rfl
        have f4 := blk_frozen HS4.out.r 4
        have q4 := (blk_cell HS4.out.res 4).trans rfl
        have p4 := blk_frozen HS4.out.res 4
        have r5 := (blk_cell HS4.out.r 5).trans rfl
        have f5 := blk_frozen HS4.out.r 5
        have q5 := (blk_cell HS4.out.res 5).trans rfl
        have p5 := blk_frozen HS4.out.res 5
        have r6 := (blk_cell HS4.out.r 6).trans rfl
        have f6 := blk_frozen HS4.out.r 6
        have q6 := (blk_cell HS4.out.res 6).trans rfl
        have p6 := blk_frozen HS4.out.res 6
        go_wp2
        go_region
        go_wp2
        exact finR (doS_key HK.out (by have := HF.out; omega) (by have := HF.out; omega) HO.out _ (by rw [if_neg (by rw [HF.out]; decide), if_neg (by rw [HF.out]; decide), if_neg (by rw [HF.out]; decide), if_pos HF.out]; unfold isIn; rw [NF.out, HT.out]; rfl)) HS4.out HV4.out (noCells _ _) (fun k hk => by simp [Value.ownBlock]) rfl rfl rfl
end Go.Proofs.Ytcnmefocbjilbaa.G
namespace Go.Proofs.Ytcnmefocbjilbaa.G
open Go.RowKit Go.Proofs.YtcnmefocbjilbaaW.PrintWords Go.Proofs.YtcnmefocbjilbaaW.PrintLast Go.Proofs.YtcnmefocbjilbaaW.PrintMore
open Go.Proofs.YtcnmefocbjilbaaFlat
set_option maxHeartbeats 2000000
set_option maxRecDepth 20000

theorem Sr.off {w w' w'' : World} {x : S26} {cs cs' : Array Value} {g : Nat} {t : TypeId} (h : Sr w w' x cs) (ho : Only w' w'' g cs' t) (hg : w.heap.size + 3 ≤ g) : Sr w w'' x cs :=
  ⟨h.below.trans (ho.below (by omega)), by rw [ho.size]; exact h.size, (ho.other _ (by omega)).trans h.x, (ho.other _ (by omega)).trans h.res, (ho.other _ (by omega)).trans h.r⟩
theorem refDo_update (A : Option Addr) (c : Nat) (l : List S40) (x : S26) (w : World) (HR : Kd.C k40 w A l.length l) (hl : l.length < 2199023255551) (hr : rightB l = true) (hf : x.f0 = 4) (ho : okCall x = true) :
    Calls Try.prog 12 #[.slice A l.length c, .agg (cellsC x)] w (DoPost l x w) := by
  have HR0 := Aside0.mk HR
  have HK := Aside0.mk hr
  have HF := Aside0.mk hf
  have HO := Aside0.mk ho
  clear HR hr hf ho
  unfold cellsC
  go_enter Try.func12, Try.ntmps12
  go_wp2_with fail
  show Calls Try.prog 16 _ (startR x w) _
  refine (ref10_Right_calls A c l _ (Kd.C_below HR0.out (startR_is x w).below)).mono ?_
  rintro e w1 ⟨he, hb⟩
  rw [HK.out] at he
  obtain rfl := he
  have HS1 := Aside0.mk ((startR_is x w).mv hb)
  clear hb
  go_wp2_with fail
  refine (Copy_calls A c l _ (Kd.C_below HR0.out HS1.out.below) (by omega)).mono ?_
  rintro e w2 ⟨va, rfl, hva, hb⟩
  obtain ⟨VA, vn, rfl⟩ := Kd.R_slice hva
  have HS2 := Aside0.mk (HS1.out.mv hb)
  have HVA := Aside0.mk hva
  have HB12 := Aside0.mk hb
  clear hb hva
  have x0 := (blk_cell HS2.out.x 0).trans rfl
  have x1 := (blk_cell HS2.out.x 1).trans rfl
  have x2 := (blk_cell HS2.out.x 2).trans rfl
  have x3 := (blk_cell HS2.out.x 3).trans rfl
  have x4 := (blk_cell HS2.out.x 4).trans rfl
  have x5 := (blk_cell HS2.out.x 5).trans rfl
  have x6 := (blk_cell HS2.out.x 6).trans rfl
  have d1 : decide (2 ≤ x.f0) = true := decide_eq_true (by have := HF.out; omega)
  have d2 : decide (x.f0 ≤ 5) = true := decide_eq_true (by have := HF.out; omega)
  have g1 : decide ((x.f1.size : Int) < 1) = false := (ok_facts HO.out).1
  have g2 : decide (512 < (x.f1.size : Int)) = false := (ok_facts HO.out).2.1
  have g3 : decide (2048 < (x.f2.size : Int)) = false := (ok_facts HO.out).2.2
  go_wp2_with fail
  go_loopw [8, 9] (fun v8 v9 w' => ∃ (k : Nat) (a : Int), k ≤ l.length ∧ v8 = .int .i64 a ∧ v9 = .int .i64 k ∧ Aside0 (LastIs l x.f1 k a) ∧ Aside0 (Below w2.heap.size w2 w')) (fun _ v9 _ => l.length - (intOf v9).toNat)
  case atStart => exact ⟨0, -1, by omega, rfl, rfl, ⟨.inl ⟨rfl, fun i h => absurd h (by omega)⟩⟩, ⟨Below.refl _ _⟩⟩
  case round =>
    obtain ⟨k, at_, hk, rfl, rfl, HLs, HB⟩ := hrel
    by_cases hlt : k < l.length
    · obtain ⟨ad, rfl, hx0, hx1⟩ := at_T40 HR0.out k (by omega) (by omega)
      simp only [Int.toNat_natCast] at hx0 hx1
      replace hx0 := pw_cell_below HB.out (pw_cell_below HS2.out.below hx0)
      have y1 := pw_cell_below HB.out ((blk_cell HS2.out.x 1).trans rfl)
      clear hx1
      cases hs : ((rd_T40 l k).f0.toList == x.f1.toList)
      · have Hs := Aside0.mk hs
        go_wp2_with fail
        go_quiet (fail)
        go_wp2_with fail
        go_roundw
        case rel => exact ⟨k + 1, at_, by omega, rfl, by go_num, ⟨HLs.out.no Hs.out⟩, ⟨pw_below_drewN HB.out _⟩⟩
        case measure => simp [intOf]; omega
      · have Hs := Aside0.mk hs
        go_wp2_with fail
        go_quiet (fail)
        go_wp2_with fail
        go_roundw
        case rel => exact ⟨k + 1, k, by omega, rfl, by go_num, ⟨LastIs.yes Hs.out⟩, ⟨pw_below_drewN HB.out _⟩⟩
        case measure => simp [intOf]; omega
    · obtain rfl : k = l.length := by omega
      clear hlt
      have HS3 := Aside0.mk (HS2.out.mv HB.out)
      have HV3 := Aside0.mk (Kd.R_below (Kd.R_lower HVA.out HS1.out.below.size) HB.out)
      have x0 := (blk_cell HS3.out.x 0).trans rfl
      have x1 := (blk_cell HS3.out.x 1).trans rfl
      have x2 := (blk_cell HS3.out.x 2).trans rfl
      have x3 := (blk_cell HS3.out.x 3).trans rfl
      have x4 := (blk_cell HS3.out.x 4).trans rfl
      have x5 := (blk_cell HS3.out.x 5).trans rfl
      have x6 := (blk_cell HS3.out.x 6).trans rfl
      have r0 := (blk_cell HS3.out.r 0).trans rfl
      have f0 := blk_frozen HS3.out.r 0
      have q0 := (blk_cell HS3.out.res 0).trans rfl
      have p0 := blk_frozen HS3.out.res 0
      have r1 := (blk_cell HS3.out.r 1).trans rfl
      have f1 := blk_frozen HS3.out.r 1
      have q1 := (blk_cell HS3.out.res 1).trans rfl
      have p1 := blk_frozen HS3.out.res 1
      have r2 := (blk_cell HS3.out.r 2).trans rfl
      have f2 := blk_frozen HS3.out.r 2
      have q2 := (blk_cell HS3.out.res 2).trans rfl
      have p2 := blk_frozen HS3.out.res 2
      have r3 := (blk_cell HS3.out.r 3).trans rfl
      have f3 := blk_frozen HS3.out.r 3
      have q3 := (blk_cell HS3.out.res 3).trans rfl
      have p3 := blk_frozen HS3.out.res 3
      have r4 := (blk_cell HS3.out.r 4).trans rfl
      have f4 := blk_frozen HS3.out.r 4
      have q4 := (blk_cell HS3.out.res 4).trans rfl
      have p4 := blk_frozen HS3.out.res 4
      have r5 := (blk_cell HS3.out.r 5).trans rfl
      have f5 := blk_frozen HS3.out.r 5
      have q5 := (blk_cell HS3.out.res 5).trans rfl
      have p5 := blk_frozen HS3.out.res 5
      have r6 := (blk_cell HS3.out.r 6).trans rfl
      have f6 := blk_frozen HS3.out.r 6
      have q6 := (blk_cell HS3.out.res 6).trans rfl
      have p6 := blk_frozen HS3.out.res 6
      have e2 : (x.f0 == 2) = false := beq_eq_false_iff_ne.mpr (by have := HF.out; omega)
      have e3 : (x.f0 == 3) = false := beq_eq_false_iff_ne.mpr (by have := HF.out; omega)
      have e4 : (x.f0 == 4) = true := beq_iff_eq.mpr HF.out
      rcases HLs.out with ⟨rfl, hno⟩ | ⟨n, rfl, hn, hyes⟩
      · have NF := Aside0.mk (last_none HK.out hno)
        clear hno HLs
        have h1 : Only wr _ (w.heap.size + 1 + 1) #[.int .i64 0, .int .u8 x.f0, .int .i64 7, .int .u64 0, .bool false, .string ⟨#[]⟩, .slice none 0 0] 34 := (Only.refl HS3.out.r).set 2 (.int .i64 7)
        have H1 := Aside0.mk h1
        clear h1
        go_wp2
        go_region
        go_wp2
        exact finR (doS_key HK.out (by have := HF.out; omega) (by have := HF.out; omega) HO.out _ (by rw [if_neg (by rw [HF.out]; decide), if_neg (by rw [HF.out]; decide), if_pos HF.out]; unfold isIn; rw [NF.out]; rfl)) (HS3.out.to H1.out) (own_only HV3.out HS3.out.r H1.out (by decide)) (noCells _ _) (fun k hk => by simp [Value.ownBlock]) rfl rfl rfl
      · have NF := Aside0.mk (last_some HK.out hn hyes)
        have hn0 : (0 : Int) ≤ (n : Int) := by omega
        have hn1 : ¬ ((n : Int) < 0) := by omega
        have PF := Aside0.mk (show l.set n ⟨(rd_T40 l n).f0, x.f2⟩ = putS l ⟨x.f1, x.f2⟩ by
          have hk : (rd_T40 l n).f0 = x.f1 := tl_inj (by simpa [isKey] using hyes)
          rw [hk]
          exact put_found HK.out hn hyes)
        obtain ⟨gV, cV, hVA, hgV, _, cellsV, hcV⟩ := Kd.R_form (Kd.R_below HVA.out HB.out) (by omega)
        have hg3 := HS1.out.size
        rw [hVA] at HV3 ⊢
        have sv := setV HV3.out n hn x.f2
        have SV := Aside0.mk sv.1
        have SG := Aside0.mk sv.2.1
        obtain ⟨uV, hu⟩ := sv.2.2.1
        have hfz := sv.2.2.2
        have hO := (Only.refl hcV).set (n * 2 + 1) (.string x.f2)
        have HS4 := Aside0.mk (HS3.out.off hO (by omega))
        have hncV : (n : Int) < (l.length : Int) := by omega
        clear hyes HLs sv hVA hcV hO r0 r1 r2 r3 r4 r5 r6 q0 q1 q2 q3 q4 q5 q6 f0 f1 f2 f3 f4 f5 f6 p0 p1 p2 p3 p4 p5 p6
        have r0 := (blk_cell HS4.out.r 0).trans rfl
        have f0 := blk_frozen HS4.out.r 0
        have q0 := (blk_cell HS4.out.res 0).trans rfl
        have p0 := blk_frozen HS4.out.res 0
        have r1 := (blk_cell HS4.out.r 1).trans rfl
        have f1 := blk_frozen HS4.out.r 1
        have q1 := (blk_cell HS4.out.res 1).trans rfl
        have p1 := blk_frozen HS4.out.res 1
        have r2 := (blk_cell HS4.out.r 2).trans rfl
        have f2 := blk_frozen HS4.out.r 2
        have q2 := (blk_cell HS4.out.res 2).trans rfl
        have p2 := blk_frozen HS4.out.res 2
        have r3 := (blk_cell HS4.out.r 3).trans rfl
        have f3 := blk_frozen HS4.out.r 3
        have q3 := (blk_cell HS4.out.res 3).trans rfl
        have p3 := blk_frozen HS4.out.res 3
        have r4 := (blk_cell HS4.out.r 4).trans rfl
        have f4 := blk_frozen HS4.out.r 4
        have q4 := (blk_cell HS4.out.res 4).trans rfl
        have p4 := blk_frozen HS4.out.res 4
        have r5 := (blk_cell HS4.out.r 5).trans rfl
        have f5 := blk_frozen HS4.out.r 5
        have q5 := (blk_cell HS4.out.res 5).trans rfl
        have p5 := blk_frozen HS4.out.res 5
        have r6 := (blk_cell HS4.out.r 6).trans rfl
        have f6 := blk_frozen HS4.out.r 6
        have q6 := (blk_cell HS4.out.res 6).trans rfl
        have p6 := blk_frozen HS4.out.res 6

        go_wp2
        go_region
        go_wp2
        exact finR (doS_key HK.out (by have := HF.out; omega) (by have := HF.out; omega) HO.out _ (by rw [if_neg (by rw [HF.out]; decide), if_neg (by rw [HF.out]; decide), if_pos HF.out]; unfold isIn; rw [NF.out]; rfl)) HS4.out (by rw [← PF.out]; exact SV.out) (noCells _ _) (fun k hk => by simp [Value.ownBlock]) rfl rfl rfl
end Go.Proofs.Ytcnmefocbjilbaa.G
namespace Go.Proofs.Ytcnmefocbjilbaa.G
open Go.RowKit Go.Proofs.YtcnmefocbjilbaaW.PrintWords Go.Proofs.YtcnmefocbjilbaaW.PrintLast Go.Proofs.YtcnmefocbjilbaaW.PrintMore
open Go.Proofs.YtcnmefocbjilbaaFlat
set_option maxHeartbeats 2000000
set_option maxRecDepth 20000

theorem refDo_low (A : Option Addr) (c : Nat) (l : List S40) (x : S26) (w : World) (HR : Kd.C k40 w A l.length l) (hl : l.length < 2199023255551) (hr : rightB l = true) (hf : x.f0 < 2) :
    Calls Try.prog 12 #[.slice A l.length c, .agg (cellsC x)] w (DoPost l x w) := by
  have HR0 := Aside0.mk HR
  have HK := Aside0.mk hr
  have HF := Aside0.mk hf
  clear HR hr hf
  unfold cellsC
  go_enter Try.func12, Try.ntmps12
  go_wp2_with fail
  show Calls Try.prog 16 _ (startR x w) _
  refine (ref10_Right_calls A c l _ (Kd.C_below HR0.out (startR_is x w).below)).mono ?_
  rintro e w1 ⟨he, hb⟩
  rw [HK.out] at he
  obtain rfl := he
  have HS1 := Aside0.mk ((startR_is x w).mv hb)
  clear hb
  go_wp2_with fail
  refine (Copy_calls A c l _ (Kd.C_below HR0.out HS1.out.below) (by omega)).mono ?_
  rintro e w2 ⟨va, rfl, hva, hb⟩
  obtain ⟨VA, vn, rfl⟩ := Kd.R_slice hva
  have HS2 := Aside0.mk (HS1.out.mv hb)
  have HVA := Aside0.mk hva
  have HB12 := Aside0.mk hb
  clear hb hva
  have x0 := (blk_cell HS2.out.x 0).trans rfl
  have x1 := (blk_cell HS2.out.x 1).trans rfl
  have x2 := (blk_cell HS2.out.x 2).trans rfl
  have x3 := (blk_cell HS2.out.x 3).trans rfl
  have x4 := (blk_cell HS2.out.x 4).trans rfl
  have x5 := (blk_cell HS2.out.x 5).trans rfl
  have x6 := (blk_cell HS2.out.x 6).trans rfl
  have d1 : decide (2 ≤ x.f0) = false := decide_eq_false (by have := HF.out; omega)
  have d0 : x.f0 < 2 := HF.out
  go_wp2_with fail
  go_loopw [8, 9] (fun v8 v9 w' => ∃ (k : Nat) (a : Int), k ≤ l.length ∧ v8 = .int .i64 a ∧ v9 = .int .i64 k ∧ Aside0 (LastIs l x.f1 k a) ∧ Aside0 (Below w2.heap.size w2 w')) (fun _ v9 _ => l.length - (intOf v9).toNat)
  case atStart => exact ⟨0, -1, by omega, rfl, rfl, ⟨.inl ⟨rfl, fun i h => absurd h (by omega)⟩⟩, ⟨Below.refl _ _⟩⟩
  case round =>
    obtain ⟨k, at_, hk, rfl, rfl, HLs, HB⟩ := hrel
    by_cases hlt : k < l.length
    · obtain ⟨ad, rfl, hx0, hx1⟩ := at_T40 HR0.out k (by omega) (by omega)
      simp only [Int.toNat_natCast] at hx0 hx1
      replace hx0 := pw_cell_below HB.out (pw_cell_below HS2.out.below hx0)
      have y1 := pw_cell_below HB.out ((blk_cell HS2.out.x 1).trans rfl)
      clear hx1
      cases hs : ((rd_T40 l k).f0.toList == x.f1.toList)
      · have Hs := Aside0.mk hs
        go_wp2_with fail
        go_quiet (fail)
        go_wp2_with fail
        go_roundw
        case rel => exact ⟨k + 1, at_, by omega, rfl, by go_num, ⟨HLs.out.no Hs.out⟩, ⟨pw_below_drewN HB.out _⟩⟩
        case measure => simp [intOf]; omega
      · have Hs := Aside0.mk hs
        go_wp2_with fail
        go_quiet (fail)
        go_wp2_with fail
        go_roundw
        case rel => exact ⟨k + 1, k, by omega, rfl, by go_num, ⟨LastIs.yes Hs.out⟩, ⟨pw_below_drewN HB.out _⟩⟩
        case measure => simp [intOf]; omega
    · obtain rfl : k = l.length := by omega
      clear hlt
      have HS3 := Aside0.mk (HS2.out.mv HB.out)
      have HV3 := Aside0.mk (Kd.R_below (Kd.R_lower HVA.out HS1.out.below.size) HB.out)
      have x0 := (blk_cell HS3.out.x 0).trans rfl
      have x1 := (blk_cell HS3.out.x 1).trans rfl
      have x2 := (blk_cell HS3.out.x 2).trans rfl
      have x3 := (blk_cell HS3.out.x 3).trans rfl
      have x4 := (blk_cell HS3.out.x 4).trans rfl
      have x5 := (blk_cell HS3.out.x 5).trans rfl
      have x6 := (blk_cell HS3.out.x 6).trans rfl
      have r0 := (blk_cell HS3.out.r 0).trans rfl
      have f0 := blk_frozen HS3.out.r 0
      have q0 := (blk_cell HS3.out.res 0).trans rfl
      have p0 := blk_frozen HS3.out.res 0
      have r1 := (blk_cell HS3.out.r 1).trans rfl
      have f1 := blk_frozen HS3.out.r 1
      have q1 := (blk_cell HS3.out.res 1).trans rfl
      have p1 := blk_frozen HS3.out.res 1
      have r2 := (blk_cell HS3.out.r 2).trans rfl
      have f2 := blk_frozen HS3.out.r 2
      have q2 := (blk_cell HS3.out.res 2).trans rfl
      have p2 := blk_frozen HS3.out.res 2
      have r3 := (blk_cell HS3.out.r 3).trans rfl
      have f3 := blk_frozen HS3.out.r 3
      have q3 := (blk_cell HS3.out.res 3).trans rfl
      have p3 := blk_frozen HS3.out.res 3
      have r4 := (blk_cell HS3.out.r 4).trans rfl
      have f4 := blk_frozen HS3.out.r 4
      have q4 := (blk_cell HS3.out.res 4).trans rfl
      have p4 := blk_frozen HS3.out.res 4
      have r5 := (blk_cell HS3.out.r 5).trans rfl
      have f5 := blk_frozen HS3.out.r 5
      have q5 := (blk_cell HS3.out.res 5).trans rfl
      have p5 := blk_frozen HS3.out.res 5
      have r6 := (blk_cell HS3.out.r 6).trans rfl
      have f6 := blk_frozen HS3.out.r 6
      have q6 := (blk_cell HS3.out.res 6).trans rfl
      have p6 := blk_frozen HS3.out.res 6
      have e2 : (x.f0 == 2) = false := beq_eq_false_iff_ne.mpr (by have := HF.out; omega)
      have e3 : (x.f0 == 3) = false := beq_eq_false_iff_ne.mpr (by have := HF.out; omega)
      have e4 : (x.f0 == 4) = false := beq_eq_false_iff_ne.mpr (by have := HF.out; omega)
      have e5 : (x.f0 == 5) = false := beq_eq_false_iff_ne.mpr (by have := HF.out; omega)
      have e6 : (x.f0 == 6) = false := beq_eq_false_iff_ne.mpr (by have := HF.out; omega)
      have h1 : Only wr _ (w.heap.size + 1 + 1) #[.int .i64 0, .int .u8 x.f0, .int .i64 2, .int .u64 0, .bool false, .string ⟨#[]⟩, .slice none 0 0] 34 := (Only.refl HS3.out.r).set 2 (.int .i64 2)
      have H1 := Aside0.mk h1
      clear h1
      go_wp2
      go_region
      go_wp2
      exact finR (by unfold doS; rw [if_neg (by rw [HK.out]; decide), if_neg (by unfold hasKey; have := HF.out; simp; omega), if_neg (by have := HF.out; omega), if_neg (by have := HF.out; omega), if_neg (by have := HF.out; omega), if_neg (by have := HF.out; omega), if_neg (by have := HF.out; omega)]; rfl) (HS3.out.to H1.out) (own_only HV3.out HS3.out.r H1.out (by decide)) (noCells _ _) (fun k hk => by simp [Value.ownBlock]) rfl rfl rfl
theorem refDo_high (A : Option Addr) (c : Nat) (l : List S40) (x : S26) (w : World) (HR : Kd.C k40 w A l.length l) (hl : l.length < 2199023255551) (hr : rightB l = true) (hf : 6 < x.f0) :
    Calls Try.prog 12 #[.slice A l.length c, .agg (cellsC x)] w (DoPost l x w) := by
  have HR0 := Aside0.mk HR
  have HK := Aside0.mk hr
  have HF := Aside0.mk hf
  clear HR hr hf
  unfold cellsC
  go_enter Try.func12, Try.ntmps12
  go_wp2_with fail
  show Calls Try.prog 16 _ (startR x w) _
  refine (ref10_Right_calls A c l _ (Kd.C_below HR0.out (startR_is x w).below)).mono ?_
  rintro e w1 ⟨he, hb⟩
  rw [HK.out] at he
  obtain rfl := he
  have HS1 := Aside0.mk ((startR_is x w).mv hb)
  clear hb
  go_wp2_with fail
  refine (Copy_calls A c l _ (Kd.C_below HR0.out HS1.out.below) (by omega)).mono ?_
  rintro e w2 ⟨va, rfl, hva, hb⟩
  obtain ⟨VA, vn, rfl⟩ := Kd.R_slice hva
  have HS2 := Aside0.mk (HS1.out.mv hb)
  have HVA := Aside0.mk hva
  have HB12 := Aside0.mk hb
  clear hb hva
  have x0 := (blk_cell HS2.out.x 0).trans rfl
  have x1 := (blk_cell HS2.out.x 1).trans rfl
  have x2 := (blk_cell HS2.out.x 2).trans rfl
  have x3 := (blk_cell HS2.out.x 3).trans rfl
  have x4 := (blk_cell HS2.out.x 4).trans rfl
  have x5 := (blk_cell HS2.out.x 5).trans rfl
  have x6 := (blk_cell HS2.out.x 6).trans rfl
  have d1 : decide (2 ≤ x.f0) = true := decide_eq_true (by have := HF.out; omega)
  have d2 : decide (x.f0 ≤ 5) = false := decide_eq_false (by have := HF.out; omega)
  go_wp2_with fail
  go_loopw [8, 9] (fun v8 v9 w' => ∃ (k : Nat) (a : Int), k ≤ l.length ∧ v8 = .int .i64 a ∧ v9 = .int .i64 k ∧ Aside0 (LastIs l x.f1 k a) ∧ Aside0 (Below w2.heap.size w2 w')) (fun _ v9 _ => l.length - (intOf v9).toNat)
  case atStart => exact ⟨0, -1, by omega, rfl, rfl, ⟨.inl ⟨rfl, fun i h => absurd h (by omega)⟩⟩, ⟨Below.refl _ _⟩⟩
  case round =>
    obtain ⟨k, at_, hk, rfl, rfl, HLs, HB⟩ := hrel
    by_cases hlt : k < l.length
    · obtain ⟨ad, rfl, hx0, hx1⟩ := at_T40 HR0.out k (by omega) (by omega)
      simp only [Int.toNat_natCast] at hx0 hx1
      replace hx0 := pw_cell_below HB.out (pw_cell_below HS2.out.below hx0)
      have y1 := pw_cell_below HB.out ((blk_cell HS2.out.x 1).trans rfl)
      clear hx1
      cases hs : ((rd_T40 l k).f0.toList == x.f1.toList)
      · have Hs := Aside0.mk hs
        go_wp2_with fail
        go_quiet (fail)
        go_wp2_with fail
        go_roundw
        case rel => exact ⟨k + 1, at_, by omega, rfl, by go_num, ⟨HLs.out.no Hs.out⟩, ⟨pw_below_drewN HB.out _⟩⟩
        case measure => simp [intOf]; omega
      · have Hs := Aside0.mk hs
        go_wp2_with fail
        go_quiet (fail)
        go_wp2_with fail
        go_roundw
        case rel => exact ⟨k + 1, k, by omega, rfl, by go_num, ⟨LastIs.yes Hs.out⟩, ⟨pw_below_drewN HB.out _⟩⟩
        case measure => simp [intOf]; omega
    · obtain rfl : k = l.length := by omega
      clear hlt
      have HS3 := Aside0.mk (HS2.out.mv HB.out)
      have HV3 := Aside0.mk (Kd.R_below (Kd.R_lower HVA.out HS1.out.below.size) HB.out)
      have x0 := (blk_cell HS3.out.x 0).trans rfl
      have x1 := (blk_cell HS3.out.x 1).trans rfl
      have x2 := (blk_cell HS3.out.x 2).trans rfl
      have x3 := (blk_cell HS3.out.x 3).trans rfl
      have x4 := (blk_cell HS3.out.x 4).trans rfl
      have x5 := (blk_cell HS3.out.x 5).trans rfl
      have x6 := (blk_cell HS3.out.x 6).trans rfl
      have r0 := (blk_cell HS3.out.r 0).trans rfl
      have f0 := blk_frozen HS3.out.r 0
      have q0 := (blk_cell HS3.out.res 0).trans rfl
      have p0 := blk_frozen HS3.out.res 0
      have r1 := (blk_cell HS3.out.r 1).trans rfl
      have f1 := blk_frozen HS3.out.r 1
      have q1 := (blk_cell HS3.out.res 1).trans rfl
      have p1 := blk_frozen HS3.out.res 1
      have r2 := (blk_cell HS3.out.r 2).trans rfl
      have f2 := blk_frozen HS3.out.r 2
      have q2 := (blk_cell HS3.out.res 2).trans rfl
      have p2 := blk_frozen HS3.out.res 2
      have r3 := (blk_cell HS3.out.r 3).trans rfl
      have f3 := blk_frozen HS3.out.r 3
      have q3 := (blk_cell HS3.out.res 3).trans rfl
      have p3 := blk_frozen HS3.out.res 3
      have r4 := (blk_cell HS3.out.r 4).trans rfl
      have f4 := blk_frozen HS3.out.r 4
      have q4 := (blk_cell HS3.out.res 4).trans rfl
      have p4 := blk_frozen HS3.out.res 4
      have r5 := (blk_cell HS3.out.r 5).trans rfl
      have f5 := blk_frozen HS3.out.r 5
      have q5 := (blk_cell HS3.out.res 5).trans rfl
      have p5 := blk_frozen HS3.out.res 5
      have r6 := (blk_cell HS3.out.r 6).trans rfl
      have f6 := blk_frozen HS3.out.r 6
      have q6 := (blk_cell HS3.out.res 6).trans rfl
      have p6 := blk_frozen HS3.out.res 6
      have e2 : (x.f0 == 2) = false := beq_eq_false_iff_ne.mpr (by have := HF.out; omega)
      have e3 : (x.f0 == 3) = false := beq_eq_false_iff_ne.mpr (by have := HF.out; omega)
      have e4 : (x.f0 == 4) = false := beq_eq_false_iff_ne.mpr (by have := HF.out; omega)
      have e5 : (x.f0 == 5) = false := beq_eq_false_iff_ne.mpr (by have := HF.out; omega)
      have e6 : (x.f0 == 6) = false := beq_eq_false_iff_ne.mpr (by have := HF.out; omega)
      have h1 : Only wr _ (w.heap.size + 1 + 1) #[.int .i64 0, .int .u8 x.f0, .int .i64 2, .int .u64 0, .bool false, .string ⟨#[]⟩, .slice none 0 0] 34 := (Only.refl HS3.out.r).set 2 (.int .i64 2)
      have H1 := Aside0.mk h1
      clear h1
      go_wp2
      go_region
      go_wp2
      exact finR (by unfold doS; rw [if_neg (by rw [HK.out]; decide), if_neg (by unfold hasKey; have := HF.out; simp; omega), if_neg (by have := HF.out; omega), if_neg (by have := HF.out; omega), if_neg (by have := HF.out; omega), if_neg (by have := HF.out; omega), if_neg (by have := HF.out; omega)]; rfl) (HS3.out.to H1.out) (own_only HV3.out HS3.out.r H1.out (by decide)) (noCells _ _) (fun k hk => by simp [Value.ownBlock]) rfl rfl rfl
end Go.Proofs.Ytcnmefocbjilbaa.G
namespace Go.Proofs.Ytcnmefocbjilbaa.G
open Go.RowKit Go.Proofs.YtcnmefocbjilbaaW.PrintWords Go.Proofs.YtcnmefocbjilbaaW.PrintLast Go.Proofs.YtcnmefocbjilbaaW.PrintMore
open Go.Proofs.YtcnmefocbjilbaaFlat
set_option maxHeartbeats 2000000
set_option maxRecDepth 20000

section
variable {ops : Array Oper} {o : Oper} {a : Act} {Q : Exit → Act → World → Prop} {Kc : Act → World → Prop}
/-- append(v, c) in a region. -/
theorem app1Step {w0 W : World} (base : Nat) (hw : Region.wanted o (yielded ops a.tmps) = true) (s x : Operand) (ho : o.op = .call { callee := .builtin .append, args := #[s, x], argTypes := #[22, 22] })
    (v : Value) (xs : List S40) (p q : ByteArray) (hs : a.eval s = v) (hx : a.eval x = .slice (some ⟨W.heap.size, 0, none⟩) 1 1) (HO : Own W base v xs) (HB : Below base w0 W) (hbase : base ≤ W.heap.size) (hl : xs.length < 4398046511103)
    (h : ∀ v1 w1, Own w1 base v1 (xs ++ [⟨p, q⟩]) → Below base w0 w1 → Kc (a.put o.dst v1) w1) :
    if Region.wanted o (yielded ops a.tmps) = true then Oper.wp Try.prog o a (W.alloc (.cells #[.string p, .string q] 40 (0, 0))) Kc Q else Kc (a.put o.dst undef) (W.alloc (.cells #[.string p, .string q] 40 (0, 0))) := by
  refine Kd.R_append_step k40 (w0 := w0) base hw s x 22 40 (.agg #[(.string ⟨#[]⟩), (.string ⟨#[]⟩)]) 32 ho Try.underlying22 info40 rfl (by decide) (by omega) v xs (⟨p, q⟩ : S40) [.string p, .string q] (fun _ => True) (fun _ => False) hs hx (k40_mkM _ _ _ (⟨p, q⟩ : S40)) (fun _ hk => hk.elim) (fun _ _ => trivial) HO HB hbase (by omega) ?_
  intro v1 w1 h1 h2 h3 h4
  exact h v1 w1 h1 h2
end
def inScan (x : S26) (y : S40) : Bool := hasB x.f3.f0 x.f3.f1 x.f3.f2 y.f0
theorem refDo_arg (A : Option Addr) (c : Nat) (l : List S40) (x : S26) (w : World) (HR : Kd.C k40 w A l.length l) (hl : l.length < 2199023255551) (hr : rightB l = true) (hf : x.f0 = 6) (hs : scanOk x = false) :
    Calls Try.prog 12 #[.slice A l.length c, .agg (cellsC x)] w (DoPost l x w) := by
  have HR0 := Aside0.mk HR
  have HK := Aside0.mk hr
  have HF := Aside0.mk hf
  have HSC := Aside0.mk hs
  clear HR hr hf hs
  unfold cellsC
  go_enter Try.func12, Try.ntmps12
  go_wp2_with fail
  show Calls Try.prog 16 _ (startR x w) _
  refine (ref10_Right_calls A c l _ (Kd.C_below HR0.out (startR_is x w).below)).mono ?_
  rintro e w1 ⟨he, hb⟩
  rw [HK.out] at he
  obtain rfl := he
  have HS1 := Aside0.mk ((startR_is x w).mv hb)
  clear hb
  go_wp2_with fail
  refine (Copy_calls A c l _ (Kd.C_below HR0.out HS1.out.below) (by omega)).mono ?_
  rintro e w2 ⟨va, rfl, hva, hb⟩
  obtain ⟨VA, vn, rfl⟩ := Kd.R_slice hva
  have HS2 := Aside0.mk (HS1.out.mv hb)
  have HVA := Aside0.mk hva
  have HB12 := Aside0.mk hb
  clear hb hva
  have x0 := (blk_cell HS2.out.x 0).trans rfl
  have x1 := (blk_cell HS2.out.x 1).trans rfl
  have x2 := (blk_cell HS2.out.x 2).trans rfl
  have x3 := (blk_cell HS2.out.x 3).trans rfl
  have x4 := (blk_cell HS2.out.x 4).trans rfl
  have x5 := (blk_cell HS2.out.x 5).trans rfl
  have x6 := (blk_cell HS2.out.x 6).trans rfl
  have d1 : decide (2 ≤ x.f0) = true := decide_eq_true (by have := HF.out; omega)
  have d2 : decide (x.f0 ≤ 5) = false := decide_eq_false (by have := HF.out; omega)
  go_wp2_with fail
  go_loopw [8, 9] (fun v8 v9 w' => ∃ (k : Nat) (a : Int), k ≤ l.length ∧ v8 = .int .i64 a ∧ v9 = .int .i64 k ∧ Aside0 (LastIs l x.f1 k a) ∧ Aside0 (Below w2.heap.size w2 w')) (fun _ v9 _ => l.length - (intOf v9).toNat)
  case atStart => exact ⟨0, -1, by omega, rfl, rfl, ⟨.inl ⟨rfl, fun i h => absurd h (by omega)⟩⟩, ⟨Below.refl _ _⟩⟩
  case round =>
    obtain ⟨k, at_, hk, rfl, rfl, HLs, HB⟩ := hrel
    by_cases hlt : k < l.length
    · obtain ⟨ad, rfl, hx0, hx1⟩ := at_T40 HR0.out k (by omega) (by omega)
      simp only [Int.toNat_natCast] at hx0 hx1
      replace hx0 := pw_cell_below HB.out (pw_cell_below HS2.out.below hx0)
      have y1 := pw_cell_below HB.out ((blk_cell HS2.out.x 1).trans rfl)
      clear hx1
      cases hs : ((rd_T40 l k).f0.toList == x.f1.toList)
      · have Hs := Aside0.mk hs
        go_wp2_with fail
        go_quiet (fail)
        go_wp2_with fail
        go_roundw
        case rel => exact ⟨k + 1, at_, by omega, rfl, by go_num, ⟨HLs.out.no Hs.out⟩, ⟨pw_below_drewN HB.out _⟩⟩
        case measure => simp [intOf]; omega
      · have Hs := Aside0.mk hs
        go_wp2_with fail
        go_quiet (fail)
        go_wp2_with fail
        go_roundw
        case rel => exact ⟨k + 1, k, by omega, rfl, by go_num, ⟨LastIs.yes Hs.out⟩, ⟨pw_below_drewN HB.out _⟩⟩
        case measure => simp [intOf]; omega
    · obtain rfl : k = l.length := by omega
      clear hlt
      have HS3 := Aside0.mk (HS2.out.mv HB.out)
      have HV3 := Aside0.mk (Kd.R_below (Kd.R_lower HVA.out HS1.out.below.size) HB.out)
      have x0 := (blk_cell HS3.out.x 0).trans rfl
      have x1 := (blk_cell HS3.out.x 1).trans rfl
      have x2 := (blk_cell HS3.out.x 2).trans rfl
      have x3 := (blk_cell HS3.out.x 3).trans rfl
      have x4 := (blk_cell HS3.out.x 4).trans rfl
      have x5 := (blk_cell HS3.out.x 5).trans rfl
      have x6 := (blk_cell HS3.out.x 6).trans rfl
      have e2 : (x.f0 == 2) = false := beq_eq_false_iff_ne.mpr (by have := HF.out; omega)
      have e3 : (x.f0 == 3) = false := beq_eq_false_iff_ne.mpr (by have := HF.out; omega)
      have e4 : (x.f0 == 4) = false := beq_eq_false_iff_ne.mpr (by have := HF.out; omega)
      have e5 : (x.f0 == 5) = false := beq_eq_false_iff_ne.mpr (by have := HF.out; omega)
      have e6 : (x.f0 == 6) = true := beq_iff_eq.mpr HF.out
      clear HLs
      go_wp2_with fail
      refine (refSpan_calls _ _ _ _).mono ?_
      rintro e w4 ⟨rfl, hb⟩
      have HS4 := Aside0.mk (HS3.out.mv hb)
      have HV4 := Aside0.mk (Kd.R_below HV3.out hb)
      clear hb x0 x1 x2 x3 x4 x5 x6
      have x0 := (blk_cell HS4.out.x 0).trans rfl
      have x1 := (blk_cell HS4.out.x 1).trans rfl
      have x2 := (blk_cell HS4.out.x 2).trans rfl
      have x3 := (blk_cell HS4.out.x 3).trans rfl
      have x4 := (blk_cell HS4.out.x 4).trans rfl
      have x5 := (blk_cell HS4.out.x 5).trans rfl
      have x6 := (blk_cell HS4.out.x 6).trans rfl
      have r0 := (blk_cell HS4.out.r 0).trans rfl
      have f0 := blk_frozen HS4.out.r 0
      have q0 := (blk_cell HS4.out.res 0).trans rfl
      have p0 := blk_frozen HS4.out.res 0
      have r1 := (blk_cell HS4.out.r 1).trans rfl
      have f1 := blk_frozen HS4.out.r 1
      have q1 := (blk_cell HS4.out.res 1).trans rfl
      have p1 := blk_frozen HS4.out.res 1
      have r2 := (blk_cell HS4.out.r 2).trans rfl
      have f2 := blk_frozen HS4.out.r 2
      have q2 := (blk_cell HS4.out.res 2).trans rfl
      have p2 := blk_frozen HS4.out.res 2
      have r3 := (blk_cell HS4.out.r 3).trans rfl
      have f3 := blk_frozen HS4.out.r 3
      have q3 := (blk_cell HS4.out.res 3).trans rfl
      have p3 := blk_frozen HS4.out.res 3
      have r4 := (blk_cell HS4.out.r 4).trans rfl
      have f4 := blk_frozen HS4.out.r 4
      have q4 := (blk_cell HS4.out.res 4).trans rfl
      have p4 := blk_frozen HS4.out.res 4
      have r5 := (blk_cell HS4.out.r 5).trans rfl
      have f5 := blk_frozen HS4.out.r 5
      have q5 := (blk_cell HS4.out.res 5).trans rfl
      have p5 := blk_frozen HS4.out.res 5
      have r6 := (blk_cell HS4.out.r 6).trans rfl
      have f6 := blk_frozen HS4.out.r 6
      have q6 := (blk_cell HS4.out.res 6).trans rfl
      have p6 := blk_frozen HS4.out.res 6
      have h1 : Only w4 _ (w.heap.size + 1 + 1) #[.int .i64 0, .int .u8 x.f0, .int .i64 2, .int .u64 0, .bool false, .string ⟨#[]⟩, .slice none 0 0] 34 := (Only.refl HS4.out.r).set 2 (.int .i64 2)
      have H1 := Aside0.mk h1
      have HE := Aside0.mk (show doS l x = (l, noReply x.f0 2) by
        unfold doS
        rw [if_neg (by rw [HK.out]; decide), if_neg (by unfold hasKey; have := HF.out; simp; omega), if_neg (by have := HF.out; omega), if_neg (by have := HF.out; omega), if_neg (by have := HF.out; omega), if_neg (by have := HF.out; omega), if_pos HF.out, if_neg (by rw [HSC.out]; decide)])
      clear h1
      cases k1 : rangeB x.f3.f0 x.f3.f1 x.f3.f2 with
      | false =>
        have K1 := Aside0.mk k1
        clear k1
        go_wp2
        go_region
        go_wp2
        exact finR HE.out (HS4.out.to H1.out) (own_only HV4.out HS4.out.r H1.out (by decide)) (noCells _ _) (fun k hk => by simp [Value.ownBlock]) rfl rfl rfl
      | true =>
        have k2 : decide (x.f4 < 1) = true := decide_eq_true (by
          have h := HSC.out
          unfold scanOk at h
          rw [k1, Bool.true_and, decide_eq_false_iff_not] at h
          omega)
        have K1 := Aside0.mk k1
        clear k1
        go_wp2
        go_region
        go_wp2
        exact finR HE.out (HS4.out.to H1.out) (own_only HV4.out HS4.out.r H1.out (by decide)) (noCells _ _) (fun k hk => by simp [Value.ownBlock]) rfl rfl rfl
end Go.Proofs.Ytcnmefocbjilbaa.G
namespace Go.Proofs.Ytcnmefocbjilbaa.G
open Go.RowKit Go.Proofs.YtcnmefocbjilbaaW.PrintWords Go.Proofs.YtcnmefocbjilbaaW.PrintLast Go.Proofs.YtcnmefocbjilbaaW.PrintMore
open Go.Proofs.YtcnmefocbjilbaaFlat
set_option maxHeartbeats 2000000
set_option maxRecDepth 20000

section
variable {P : Program} {ops : Array Oper} {Q : Exit → Act → World → Prop} {S : World → Prop}
theorem wpOp_of_list {i : Nat} {oi : Oper} {fuel : Nat} {listed1 : Array Bool} {a : Act} {w : World} (hi : ops[i]? = some oi) (h : wpList P ops (Eff1 P ops Q S fuel listed1) [oi] a w) :
    wpOp P ops Q i (fun a' w' => S w' ∧ wpAnyH P .any ops Q S fuel listed1 a' w') a w := by
  unfold wpOp
  simp only [hi]
  unfold wpList at h
  have hlets : LetsOut (Eff1 P ops Q S fuel listed1) → LetsOut Q := fun ⟨x, y, hh⟩ => ⟨x, y, hh⟩
  split
  · rename_i hw
    rw [if_pos hw] at h
    rcases h with h | ⟨h1, h2⟩
    · refine .inl ?_
      unfold Oper.wp at *
      generalize (execOp a.eval oi).run P w = r at *
      cases r with
      | ok n w' =>
        cases n <;> simp only [Oper.upon, wpList] at h ⊢
        case value u => exact h
        case skip => exact h
        case defer d => exact h
        case enter f args =>
          refine Calls.mono h fun e w'' hh => ?_
          cases e with
          | returned u => exact hh
          | panicked c => exact hh
          | outgrown => exact hlets hh
        case row row args => exact Rows.mono h fun u w'' hh => hh
      | halt x w' =>
        cases x <;> simp only [Oper.upon] at h ⊢
        case panic u => exact h
    · exact .inr ⟨h1, hlets h2⟩
  · rename_i hw
    rw [if_neg hw] at h
    exact h
/-- Two may come up: either. -/
theorem hEff2 (i j : Nat) {oi oj : Oper} {fuel : Nat} {listed listed1 listed2 : Array Bool} {a : Act} {w : World} (hi : ops[i]? = some oi) (hj : ops[j]? = some oj) (hr : (Region.ready .any ops listed == [i, j]) = true) (hl1 : listed.setIfInBounds i true = listed1) (hl2 : listed.setIfInBounds j true = listed2)
    (h1 : wpList P ops (Eff1 P ops Q S fuel listed1) [oi] a w) (h2 : wpList P ops (Eff1 P ops Q S fuel listed2) [oj] a w) : wpAnyH P .any ops Q S (fuel + 1) listed a w := by
  subst hl1
  subst hl2
  refine wpAnyH_all (rs := [i, j]) (by simpa using hr) (by simp) fun k hk => ?_
  simp only [List.mem_cons, List.not_mem_nil, or_false] at hk
  rcases hk with rfl | rfl
  · exact wpOp_of_list hi h1
  · exact wpOp_of_list hj h2
end
theorem refHas_is (f t : ByteArray) (e : Bool) (key : ByteArray) (v : Bool) (w : World) (h : hasB f t e key = v) : Calls Try.prog 41 #[.agg #[.string f, .string t, .bool e], .string key] w fun r w' => r = .returned (.bool v) ∧ Below w.heap.size w w' := h ▸ refHas_calls f t e key w
theorem Sr.mvB {w w' w'' : World} {x : S26} {cs : Array Value} {B : Nat} (h : Sr w w' x cs) (hB : w.heap.size + 3 ≤ B) (hb : Below B w' w'') : Sr w w'' x cs :=
  ⟨h.below.trans (hb.mono (by omega)), Nat.le_trans h.size hb.size, (hb.block _ (by omega)).trans h.x, (hb.block _ (by omega)).trans h.res, (hb.block _ (by omega)).trans h.r⟩
/-- Where the scan stands. -/
structure ScS (w : World) (B : Nat) (w' : World) (x : S26) (is : Bool) (vc va : Value) (T l : List S40) : Prop where
  sr : Sr w w' x #[.int .i64 0, .int .u8 x.f0, .int .i64 0, .int .u64 0, .bool is, .string ⟨#[]⟩, vc]
  own : Own w' B vc T
  va : Kd.R k40 40 w' w.heap.size (fun k => k < B) va l
  sz : B ≤ w'.heap.size
theorem ScS.mv {w w' w'' : World} {B : Nat} {x : S26} {is : Bool} {vc va : Value} {T l : List S40} (h : ScS w B w' x is vc va T l) (hb : Below w'.heap.size w' w'') : ScS w B w'' x is vc va T l :=
  ⟨h.sr.mv hb, Kd.R_below h.own hb, Kd.R_below h.va hb, Nat.le_trans h.sz hb.size⟩
theorem ScS.to {w w' w'' : World} {B : Nat} {x : S26} {is is' : Bool} {vc va vc' : Value} {T l : List S40} (h : ScS w B w' x is vc va T l) (ho : Only w' w'' (w.heap.size + 1 + 1) #[.int .i64 0, .int .u8 x.f0, .int .i64 0, .int .u64 0, .bool is', .string ⟨#[]⟩, vc'] 34) (hv : Own w' B vc' T) : ScS w B w'' x is' vc' va T l :=
  ⟨h.sr.to ho, own_only hv h.sr.r ho (by decide), Kd.R_mono (Kd.R_step (Kd.R_types h.va h.sr.r (by intro q hq; simp [k40, Kd.iso, Kd.pair, Kd.string, Kd.scalar] at hq; rw [hq]; decide)) (fun k hk _ => ho.other k hk.2)) (fun _ hk => hk.1), by rw [ho.size]; exact h.sz⟩
theorem ScS.mvB {w w' w'' : World} {B : Nat} {x : S26} {is : Bool} {vc va vc' : Value} {T T' l : List S40} (h : ScS w B w' x is vc va T l) (hB : w.heap.size + 3 ≤ B) (hb : Below B w' w'') (hv : Own w'' B vc' T') : Sr w w'' x #[.int .i64 0, .int .u8 x.f0, .int .i64 0, .int .u64 0, .bool is, .string ⟨#[]⟩, vc] ∧ Kd.R k40 40 w'' w.heap.size (fun k => k < B) va l ∧ B ≤ w''.heap.size :=
  ⟨h.sr.mvB hB hb, Kd.R_step h.va (fun k hk _ => hb.block k hk), Nat.le_trans h.sz hb.size⟩
theorem ScS.fin {w w' w'' : World} {B : Nat} {x : S26} {is is' : Bool} {vc va vc' : Value} {T l : List S40} (h : Sr w w' x #[.int .i64 0, .int .u8 x.f0, .int .i64 0, .int .u64 0, .bool is, .string ⟨#[]⟩, vc]) (ho : Own w' B vc' T) (hv : Kd.R k40 40 w' w.heap.size (fun k => k < B) va l) (hs : B ≤ w'.heap.size)
    (hn : Only w' w'' (w.heap.size + 1 + 1) #[.int .i64 0, .int .u8 x.f0, .int .i64 0, .int .u64 0, .bool is', .string ⟨#[]⟩, vc'] 34) : ScS w B w'' x is' vc' va T l :=
  ⟨h.to hn, own_only ho h.r hn (by decide), Kd.R_mono (Kd.R_step (Kd.R_types hv h.r (by intro q hq; simp [k40, Kd.iso, Kd.pair, Kd.string, Kd.scalar] at hq; rw [hq]; decide)) (fun k hk _ => hn.other k hk.2)) (fun _ hk => hk.1), by rw [hn.size]; exact hs⟩
theorem take_more {F : List S40} {y : S40} {m : Nat} (h : (F.take m).length = m) : (F ++ [y]).take m = F.take m ∧ m < (F ++ [y]).length := by
  rw [List.length_take] at h
  refine ⟨List.take_append_of_le_length (by omega), by simp; omega⟩
theorem take_all {F : List S40} {y : S40} {m : Nat} (h : (F.take m).length ≠ m) : (F ++ [y]).take m = F.take m ++ [y] ∧ ¬ m < (F ++ [y]).length ∧ ¬ m < F.length := by
  rw [List.length_take] at h
  rw [List.take_of_length_le (l := F) (by omega), List.take_of_length_le (by simp; omega)]
  exact ⟨rfl, by simp; omega, by omega⟩
theorem refDo_scan (A : Option Addr) (c : Nat) (l : List S40) (x : S26) (w : World) (HR : Kd.C k40 w A l.length l) (hl : l.length < 2199023255551) (hr : rightB l = true) (hf : x.f0 = 6) (hs : scanOk x = true) :
    Calls Try.prog 12 #[.slice A l.length c, .agg (cellsC x)] w (DoPost l x w) := by
  have HR0 := Aside0.mk HR
  have HK := Aside0.mk hr
  have HF := Aside0.mk hf
  have HSC := Aside0.mk hs
  clear HR hr hf hs
  unfold cellsC
  go_enter Try.func12, Try.ntmps12
  go_wp2_with fail
  show Calls Try.prog 16 _ (startR x w) _
  refine (ref10_Right_calls A c l _ (Kd.C_below HR0.out (startR_is x w).below)).mono ?_
  rintro e w1 ⟨he, hb⟩
  rw [HK.out] at he
  obtain rfl := he
  have HS1 := Aside0.mk ((startR_is x w).mv hb)
  clear hb
  go_wp2_with fail
  refine (Copy_calls A c l _ (Kd.C_below HR0.out HS1.out.below) (by omega)).mono ?_
  rintro e w2 ⟨va, rfl, hva, hb⟩
  obtain ⟨VA, vn, rfl⟩ := Kd.R_slice hva
  have HS2 := Aside0.mk (HS1.out.mv hb)
  have HVA := Aside0.mk hva
  have HB12 := Aside0.mk hb
  clear hb hva
  have x0 := (blk_cell HS2.out.x 0).trans rfl
  have x1 := (blk_cell HS2.out.x 1).trans rfl
  have x2 := (blk_cell HS2.out.x 2).trans rfl
  have x3 := (blk_cell HS2.out.x 3).trans rfl
  have x4 := (blk_cell HS2.out.x 4).trans rfl
  have x5 := (blk_cell HS2.out.x 5).trans rfl
  have x6 := (blk_cell HS2.out.x 6).trans rfl
  have d1 : decide (2 ≤ x.f0) = true := decide_eq_true (by have := HF.out; omega)
  have d2 : decide (x.f0 ≤ 5) = false := decide_eq_false (by have := HF.out; omega)
  go_wp2_with fail
  go_loopw [8, 9] (fun v8 v9 w' => ∃ (k : Nat) (a : Int), k ≤ l.length ∧ v8 = .int .i64 a ∧ v9 = .int .i64 k ∧ Aside0 (LastIs l x.f1 k a) ∧ Aside0 (Below w2.heap.size w2 w')) (fun _ v9 _ => l.length - (intOf v9).toNat)
  case atStart => exact ⟨0, -1, by omega, rfl, rfl, ⟨.inl ⟨rfl, fun i h => absurd h (by omega)⟩⟩, ⟨Below.refl _ _⟩⟩
  case round =>
    obtain ⟨k, at_, hk, rfl, rfl, HLs, HB⟩ := hrel
    by_cases hlt : k < l.length
    · obtain ⟨ad, rfl, hx0, hx1⟩ := at_T40 HR0.out k (by omega) (by omega)
      simp only [Int.toNat_natCast] at hx0 hx1
      replace hx0 := pw_cell_below HB.out (pw_cell_below HS2.out.below hx0)
      have y1 := pw_cell_below HB.out ((blk_cell HS2.out.x 1).trans rfl)
      clear hx1
      cases hs : ((rd_T40 l k).f0.toList == x.f1.toList)
      · have Hs := Aside0.mk hs
        go_wp2_with fail
        go_quiet (fail)
        go_wp2_with fail
        go_roundw
        case rel => exact ⟨k + 1, at_, by omega, rfl, by go_num, ⟨HLs.out.no Hs.out⟩, ⟨pw_below_drewN HB.out _⟩⟩
        case measure => simp [intOf]; omega
      · have Hs := Aside0.mk hs
        go_wp2_with fail
        go_quiet (fail)
        go_wp2_with fail
        go_roundw
        case rel => exact ⟨k + 1, k, by omega, rfl, by go_num, ⟨LastIs.yes Hs.out⟩, ⟨pw_below_drewN HB.out _⟩⟩
        case measure => simp [intOf]; omega
    · obtain rfl : k = l.length := by omega
      clear hlt
      have HS3 := Aside0.mk (HS2.out.mv HB.out)
      have HV3 := Aside0.mk (Kd.R_below (Kd.R_lower HVA.out HS1.out.below.size) HB.out)
      have x0 := (blk_cell HS3.out.x 0).trans rfl
      have x1 := (blk_cell HS3.out.x 1).trans rfl
      have x2 := (blk_cell HS3.out.x 2).trans rfl
      have x3 := (blk_cell HS3.out.x 3).trans rfl
      have x4 := (blk_cell HS3.out.x 4).trans rfl
      have x5 := (blk_cell HS3.out.x 5).trans rfl
      have x6 := (blk_cell HS3.out.x 6).trans rfl
      have e2 : (x.f0 == 2) = false := beq_eq_false_iff_ne.mpr (by have := HF.out; omega)
      have e3 : (x.f0 == 3) = false := beq_eq_false_iff_ne.mpr (by have := HF.out; omega)
      have e4 : (x.f0 == 4) = false := beq_eq_false_iff_ne.mpr (by have := HF.out; omega)
      have e5 : (x.f0 == 5) = false := beq_eq_false_iff_ne.mpr (by have := HF.out; omega)
      have e6 : (x.f0 == 6) = true := beq_iff_eq.mpr HF.out
      clear HLs
      go_wp2_with fail
      refine (refSpan_calls _ _ _ _).mono ?_
      rintro e w4 ⟨rfl, hb⟩
      have HS4 := Aside0.mk (HS3.out.mv hb)
      have HV4 := Aside0.mk (Kd.R_below HV3.out hb)
      clear hb x0 x1 x2 x3 x4 x5 x6
      have x0 := (blk_cell HS4.out.x 0).trans rfl
      have x1 := (blk_cell HS4.out.x 1).trans rfl
      have x2 := (blk_cell HS4.out.x 2).trans rfl
      have x3 := (blk_cell HS4.out.x 3).trans rfl
      have x4 := (blk_cell HS4.out.x 4).trans rfl
      have x5 := (blk_cell HS4.out.x 5).trans rfl
      have x6 := (blk_cell HS4.out.x 6).trans rfl
      have HK1 := Aside0.mk (show rangeB x.f3.f0 x.f3.f1 x.f3.f2 = true by
        have h := HSC.out
        unfold scanOk at h
        rw [Bool.and_eq_true] at h
        exact h.1)
      have hmost : 1 ≤ x.f4 := by
        have h := HSC.out
        unfold scanOk at h
        rw [Bool.and_eq_true, decide_eq_true_eq] at h
        exact h.2
      have k2 : decide (x.f4 < 1) = false := decide_eq_false (by omega)
      rw [HK1.out]
      have hsz4 : w.heap.size + 3 ≤ w4.heap.size := HS4.out.size
      have HSS0 := Aside0.mk (show ScS w w4.heap.size w4 x false (.slice none 0 0) (.slice VA l.length vn) [] l from ⟨HS4.out, Kd.R_nil k40 40 _ _ _, Kd.R_mono (Kd.R_bound HV4.out) (fun k hk => hk.2.2.1), Nat.le_refl _⟩)
      go_wp2_with fail
      go_loopw [10] (fun v10 w' => ∃ (k : Nat) (vc : Value), k ≤ l.length ∧ v10 = .int .i64 k ∧ Aside0 (ScS w w4.heap.size w' x (decide (x.f4.toNat < ((l.take k).filter (inScan x)).length)) vc (.slice VA l.length vn) (((l.take k).filter (inScan x)).take x.f4.toNat) l)) (fun v10 _ => l.length - (intOf v10).toNat)
      case atStart => exact ⟨0, .slice none 0 0, by omega, rfl, by simpa using HSS0⟩
      case round =>
        obtain ⟨k, vc, hk, rfl, HSS⟩ := hrel
        by_cases hlt : k < l.length
        · obtain ⟨VC, cc, rfl⟩ := Kd.R_slice HSS.out.own
          obtain ⟨ad, rfl, hx0, hx1⟩ := at_T40 HR0.out k (by omega) (by omega)
          simp only [Int.toNat_natCast] at hx0 hx1
          have X0 := Aside0.mk hx0
          have X1 := Aside0.mk hx1
          clear hx0 hx1
          have HSN := Aside0.mk (take_snoc40 l k hlt)
          generalize hFF : (l.take k).filter (inScan x) = F at HSS
          have HFF := Aside0.mk hFF
          clear hFF
          generalize hTT : F.take x.f4.toNat = T at HSS
          have HTT := Aside0.mk hTT
          clear hTT
          generalize hII : decide (x.f4.toNat < F.length) = isk at HSS
          have HII := Aside0.mk hII
          clear hII
          cases hh : hasB x.f3.f0 x.f3.f1 x.f3.f2 (rd_T40 l k).f0
          all_goals
            have Hh := Aside0.mk hh
            clear hh
            go_wp2_with fail
            refine wp_region_flat (fun w' => ScS w w4.heap.size w' x isk (.slice VC T.length cc) (.slice VA l.length vn) T l) (by kernel_rfl) (by kernel_rfl) (HSS.out.mv (below_drew (Below.refl _ _))) ?_
            repeat
              (apply Flat.cons
               · intro w' hS
                 have HW := Aside0.mk hS
                 have s3 := (blk_cell hS.sr.x 3).trans rfl
                 have s4 := (blk_cell hS.sr.x 4).trans rfl
                 have s5 := (blk_cell hS.sr.x 5).trans rfl
                 have x0 := pw_cell_below hS.sr.below X0.out
                 clear hS
                 go_wp2_with (go_at_call 41; refine (refHas_is _ _ _ _ _ _ (by exact Hh.out)).mono ?_; rintro e w' ⟨rfl, hb⟩)
                 first
                 | exact flat_end rfl HW.out
                 | exact flat_end rfl (HW.out.mv hb)
               · exact rfl)
            refine Flat.nil fun W2 hS => ?_
            have HS5 := Aside0.mk hS
            clear hS
          · go_wp2_with fail
            go_roundw
            case rel => exact ⟨k + 1, _, by omega, by go_num, ⟨by
              have e : (l.take (k + 1)).filter (inScan x) = F := by
                rw [HSN.out, List.filter_append, List.filter_cons_of_neg (by show ¬ hasB x.f3.f0 x.f3.f1 x.f3.f2 (rd_T40 l k).f0 = true; rw [Hh.out]; simp), List.filter_nil, List.append_nil]
                exact HFF.out
              rw [e, HTT.out, HII.out]
              exact HS5.out⟩⟩
            case measure => simp [intOf]; omega
          · have HE := Aside0.mk (show (l.take (k + 1)).filter (inScan x) = F ++ [rd_T40 l k] by
              rw [HSN.out, List.filter_append, List.filter_cons_of_pos (by show hasB x.f3.f0 x.f3.f1 x.f3.f2 (rd_T40 l k).f0 = true; exact Hh.out), List.filter_nil, HFF.out])
            have s6 := (blk_cell HS5.out.sr.r 6).trans rfl
            have s4 := (blk_cell HS5.out.sr.r 4).trans rfl
            have x6 := (blk_cell HS5.out.sr.x 6).trans rfl
            have f4 := blk_frozen HS5.out.sr.r 4
            have f6 := blk_frozen HS5.out.sr.r 6
            by_cases hq : (T.length : Int) = x.f4
            · have g : ((T.length : Int) == x.f4) = true := beq_iff_eq.mpr hq
              have HQ := Aside0.mk (take_more (F := F) (y := rd_T40 l k) (m := x.f4.toNat) (by rw [HTT.out]; omega))
              clear hq
              go_wp2_with fail
              go_roundw
              case rel => exact ⟨k + 1, _, by omega, by go_num, ⟨by
                rw [HE.out, HQ.out.1, decide_eq_true HQ.out.2, HTT.out]
                exact HS5.out.to ((Only.refl HS5.out.sr.r).set 4 (.bool true)) HS5.out.own⟩⟩
              case measure => simp [intOf]; omega
            · have g : ((T.length : Int) == x.f4) = false := beq_eq_false_iff_ne.mpr hq
              have HQ := Aside0.mk (take_all (F := F) (y := rd_T40 l k) (m := x.f4.toNat) (by rw [HTT.out]; omega))
              clear hq
              go_wp2_with fail
              have HTL := Aside0.mk (show T.length < 4398046511103 by
                have h1 := flen (l := l) (inScan x) k
                rw [HFF.out] at h1
                rw [← HTT.out, List.length_take]
                omega)
              have hx0 := pw_cell_below HS5.out.sr.below X0.out
              have hx1 := pw_cell_below HS5.out.sr.below X1.out
              refine wp_region_held (S := fun w' => w'.cell? (ad.add (k * 2)) = some (.string (rd_T40 l k).f0) ∧ w'.cell? ⟨(ad.add (k * 2)).block, (ad.add (k * 2)).off + 1, none⟩ = some (.string (rd_T40 l k).f1)) (by kernel_rfl) ?_
              apply hTake 0 rfl rfl rfl (Nat.le_of_ble_eq_true rfl) (by kernel_rfl) (by kernel_rfl) (by kernel_rfl) rfl (fun _ _ _ h => h) (by exact ⟨hx0, hx1⟩)
              · intro w' hS
                obtain ⟨hx0, hx1⟩ := hS
                go_wp2_with fail
                exact pure_end rfl rfl
              · exact rfl
              apply hTake 2 rfl rfl rfl (Nat.le_of_ble_eq_true rfl) (by kernel_rfl) (by kernel_rfl) (by kernel_rfl) rfl (fun _ _ _ h => h) (by exact ⟨hx0, hx1⟩)
              · intro w' hS
                obtain ⟨hx0, hx1⟩ := hS
                go_wp2_with fail
                exact pure_end rfl rfl
              · exact rfl
              apply hTake 3 rfl rfl rfl (Nat.le_of_ble_eq_true rfl) (by kernel_rfl) (by kernel_rfl) (by kernel_rfl) rfl (fun _ _ _ h => h) (by exact ⟨hx0, hx1⟩)
              · intro w' hS
                obtain ⟨hx0, hx1⟩ := hS
                go_wp2_with fail
                exact pure_end rfl rfl
              · exact rfl
              apply hTake 4 rfl rfl rfl (Nat.le_of_ble_eq_true rfl) (by kernel_rfl) (by kernel_rfl) (by kernel_rfl) rfl (fun _ _ _ h => h) (by exact ⟨hx0, hx1⟩)
              · intro w' hS
                obtain ⟨hx0, hx1⟩ := hS
                go_wp2_with fail
                exact pure_end rfl rfl
              · exact rfl
              apply hTake 5 rfl rfl rfl (Nat.le_of_ble_eq_true rfl) (by kernel_rfl) (by kernel_rfl) (by kernel_rfl) rfl (fun _ _ _ h => h) (by exact ⟨hx0, hx1⟩)
              · intro w' hS
                obtain ⟨hx0, hx1⟩ := hS
                go_wp2_with fail
                exact pure_end rfl rfl
              · exact rfl
              have b6 := pw_cell_below (below_alloc (Below.refl W2.heap.size W2) (.cells #[.string (rd_T40 l k).f0, .string (rd_T40 l k).f1] 40 (0, 0))) s6
              have b0 := pw_cell_below (below_alloc (Below.refl W2.heap.size W2) (.cells #[.string (rd_T40 l k).f0, .string (rd_T40 l k).f1] 40 (0, 0))) hx0
              have b1 := pw_cell_below (below_alloc (Below.refl W2.heap.size W2) (.cells #[.string (rd_T40 l k).f0, .string (rd_T40 l k).f1] 40 (0, 0))) hx1
              apply hEff2 1 6 rfl rfl (by kernel_rfl) rfl rfl
              · go_wp2_with fail
                refine eff_end ⟨hx0, hx1⟩ ?_
                apply hEff 6 rfl (by kernel_rfl) rfl
                go_wp2_with fail
                refine eff_end ⟨b0, b1⟩ ?_
                apply hEff 7 rfl (by kernel_rfl) rfl
                have HS6 := Aside0.mk (HS5.out.mv (below_drew (Below.refl W2.heap.size W2)))
                refine wpList_step fun K hK => app1Step (W := W2.drew) (w0 := W2.drew) w4.heap.size rfl (.tmp 157) (.tmp 162) rfl (.slice VC T.length cc) T (rd_T40 l k).f0 (rd_T40 l k).f1 rfl rfl HS6.out.own (Below.refl _ _) HS6.out.sz HTL.out fun v5 w5 ho5 hb5 => hK _ _ ?_
                have M := HS6.out.mvB hsz4 hb5 ho5
                have M1 := Aside0.mk M.1
                have M2 := Aside0.mk M.2.1
                have M3 := Aside0.mk M.2.2
                generalize hG : T ++ [(⟨(rd_T40 l k).f0, (rd_T40 l k).f1⟩ : S40)] = G at ho5
                have HG := Aside0.mk hG
                clear hG
                obtain ⟨V5, c5, rfl⟩ := Kd.R_slice ho5
                have HO5 := Aside0.mk ho5
                have y0 := pw_cell_below M.1.below X0.out
                have y1 := pw_cell_below M.1.below X1.out
                have y6 := (blk_cell M.1.r 6).trans rfl
                have p6 := blk_frozen M.1.r 6
                clear hb5 ho5 M
                refine eff_end ⟨y0, y1⟩ ?_
                apply hEff 8 rfl (by kernel_rfl) rfl
                go_wp2_with fail
                refine eff_end ⟨y0, y1⟩ ?_
                have HN := Aside0.mk (show Only w5 _ (w.heap.size + 1 + 1) #[.int .i64 0, .int .u8 x.f0, .int .i64 0, .int .u64 0, .bool isk, .string ⟨#[]⟩, .slice V5 G.length c5] 34 from Only.set (Only.refl M1.out.r) 6 (.slice V5 G.length c5))
                have z0 := pw_cell_below (M1.out.to HN.out).below X0.out
                have z1 := pw_cell_below (M1.out.to HN.out).below X1.out
                apply hEff 9 rfl (by kernel_rfl) rfl
                go_wp2_with fail
                refine eff_end ⟨z0, z1⟩ ?_
                refine hDone (by kernel_rfl) ?_
                go_wp2_with fail
                go_roundw
                case rel => exact ⟨k + 1, _, by omega, by go_num, ⟨by
                  rw [HE.out, HQ.out.1, HTT.out, decide_eq_false HQ.out.2.1]
                  have hI : isk = false := by rw [← HII.out]; exact decide_eq_false HQ.out.2.2
                  have h := ScS.fin M1.out HO5.out M2.out M3.out HN.out
                  rw [hI] at h
                  rw [show T ++ [rd_T40 l k] = G from HG.out]
                  exact h⟩⟩
                case measure => simp [intOf]; omega
              · go_wp2_with fail
                refine eff_end ⟨b0, b1⟩ ?_
                apply hEff 1 rfl (by kernel_rfl) rfl
                go_wp2_with fail
                refine eff_end ⟨b0, b1⟩ ?_
                apply hEff 7 rfl (by kernel_rfl) rfl
                have HS6 := Aside0.mk (HS5.out.mv (below_drew (Below.refl W2.heap.size W2)))
                refine wpList_step fun K hK => app1Step (W := W2.drew) (w0 := W2.drew) w4.heap.size rfl (.tmp 157) (.tmp 162) rfl (.slice VC T.length cc) T (rd_T40 l k).f0 (rd_T40 l k).f1 rfl rfl HS6.out.own (Below.refl _ _) HS6.out.sz HTL.out fun v5 w5 ho5 hb5 => hK _ _ ?_
                have M := HS6.out.mvB hsz4 hb5 ho5
                have M1 := Aside0.mk M.1
                have M2 := Aside0.mk M.2.1
                have M3 := Aside0.mk M.2.2
                generalize hG : T ++ [(⟨(rd_T40 l k).f0, (rd_T40 l k).f1⟩ : S40)] = G at ho5
                have HG := Aside0.mk hG
                clear hG
                obtain ⟨V5, c5, rfl⟩ := Kd.R_slice ho5
                have HO5 := Aside0.mk ho5
                have y0 := pw_cell_below M.1.below X0.out
                have y1 := pw_cell_below M.1.below X1.out
                have y6 := (blk_cell M.1.r 6).trans rfl
                have p6 := blk_frozen M.1.r 6
                clear hb5 ho5 M
                refine eff_end ⟨y0, y1⟩ ?_
                apply hEff 8 rfl (by kernel_rfl) rfl
                go_wp2_with fail
                refine eff_end ⟨y0, y1⟩ ?_
                have HN := Aside0.mk (show Only w5 _ (w.heap.size + 1 + 1) #[.int .i64 0, .int .u8 x.f0, .int .i64 0, .int .u64 0, .bool isk, .string ⟨#[]⟩, .slice V5 G.length c5] 34 from Only.set (Only.refl M1.out.r) 6 (.slice V5 G.length c5))
                have z0 := pw_cell_below (M1.out.to HN.out).below X0.out
                have z1 := pw_cell_below (M1.out.to HN.out).below X1.out
                apply hEff 9 rfl (by kernel_rfl) rfl
                go_wp2_with fail
                refine eff_end ⟨z0, z1⟩ ?_
                refine hDone (by kernel_rfl) ?_
                go_wp2_with fail
                go_roundw
                case rel => exact ⟨k + 1, _, by omega, by go_num, ⟨by
                  rw [HE.out, HQ.out.1, HTT.out, decide_eq_false HQ.out.2.1]
                  have hI : isk = false := by rw [← HII.out]; exact decide_eq_false HQ.out.2.2
                  have h := ScS.fin M1.out HO5.out M2.out M3.out HN.out
                  rw [hI] at h
                  rw [show T ++ [rd_T40 l k] = G from HG.out]
                  exact h⟩⟩
                case measure => simp [intOf]; omega
        · obtain rfl : k = l.length := by omega
          clear hlt
          have HF2 := Aside0.mk (show (l.take l.length).filter (inScan x) = scanAll l x by rw [List.take_length]; rfl)
          rw [HF2.out] at HSS
          have HIS := Aside0.mk (show decide (x.f4.toNat < (scanAll l x).length) = decide (x.f4 < ((scanAll l x).length : Int)) by
            by_cases h : x.f4 < ((scanAll l x).length : Int)
            · rw [decide_eq_true h, decide_eq_true (by omega)]
            · rw [decide_eq_false h, decide_eq_false (by omega)])
          rw [HIS.out] at HSS
          generalize hT : (scanAll l x).take x.f4.toNat = T at HSS
          have HT := Aside0.mk hT
          clear hT
          obtain ⟨VC, cc, rfl⟩ := Kd.R_slice HSS.out.own
          have HE := Aside0.mk (show doS l x = (l, ⟨0, x.f0, 0, 0, decide (x.f4 < (scanAll l x).length), ⟨#[]⟩, T⟩) by
            unfold doS
            rw [if_neg (by rw [HK.out]; decide), if_neg (by unfold hasKey; have := HF.out; simp; omega), if_neg (by have := HF.out; omega), if_neg (by have := HF.out; omega), if_neg (by have := HF.out; omega), if_neg (by have := HF.out; omega), if_pos HF.out, if_pos HSC.out, HT.out])
          generalize hII : decide (x.f4 < ((scanAll l x).length : Int)) = isk at HSS HE
          have HAP := Aside0.mk (show ∀ k, (Value.slice VA l.length vn).ownBlock = some k → (Value.slice VC T.length cc).ownBlock ≠ some k from fun k h1 h2 => by
            have q1 := HSS.out.va.1 k h1
            have q2 := Kd.R_base HSS.out.own k h2
            omega)
          have HOC := Aside0.mk (show OwnC _ w.heap.size _ _ from ⟨VC, cc, rfl, (Kd.R_reads' HSS.out.own).2.1, cc, Kd.R_lower HSS.out.own (by omega)⟩)
          have HVA2 := Aside0.mk (Kd.R_mono HSS.out.va (ok' := fun _ => True) (fun _ _ => trivial))
          clear hII
          have r0 := (blk_cell HSS.out.sr.r 0).trans rfl
          have f0 := blk_frozen HSS.out.sr.r 0
          have q0 := (blk_cell HSS.out.sr.res 0).trans rfl
          have p0 := blk_frozen HSS.out.sr.res 0
          have r1 := (blk_cell HSS.out.sr.r 1).trans rfl
          have f1 := blk_frozen HSS.out.sr.r 1
          have q1 := (blk_cell HSS.out.sr.res 1).trans rfl
          have p1 := blk_frozen HSS.out.sr.res 1
          have r2 := (blk_cell HSS.out.sr.r 2).trans rfl
          have f2 := blk_frozen HSS.out.sr.r 2
          have q2 := (blk_cell HSS.out.sr.res 2).trans rfl
          have p2 := blk_frozen HSS.out.sr.res 2
          have r3 := (blk_cell HSS.out.sr.r 3).trans rfl
          have f3 := blk_frozen HSS.out.sr.r 3
          have q3 := (blk_cell HSS.out.sr.res 3).trans rfl
          have p3 := blk_frozen HSS.out.sr.res 3
          have r4 := (blk_cell HSS.out.sr.r 4).trans rfl
          have f4 := blk_frozen HSS.out.sr.r 4
          have q4 := (blk_cell HSS.out.sr.res 4).trans rfl
          have p4 := blk_frozen HSS.out.sr.res 4
          have r5 := (blk_cell HSS.out.sr.r 5).trans rfl
          have f5 := blk_frozen HSS.out.sr.r 5
          have q5 := (blk_cell HSS.out.sr.res 5).trans rfl
          have p5 := blk_frozen HSS.out.sr.res 5
          have r6 := (blk_cell HSS.out.sr.r 6).trans rfl
          have f6 := blk_frozen HSS.out.sr.r 6
          have q6 := (blk_cell HSS.out.sr.res 6).trans rfl
          have p6 := blk_frozen HSS.out.sr.res 6
          go_wp2
          go_region
          go_wp2
          exact finR HE.out HSS.out.sr HVA2.out HOC.out HAP.out rfl rfl rfl
end Go.Proofs.Ytcnmefocbjilbaa.G
namespace Go.Proofs.Ytcnmefocbjilbaa.G
open Go.RowKit Go.Proofs.YtcnmefocbjilbaaW.PrintWords Go.Proofs.YtcnmefocbjilbaaW.PrintLast Go.Proofs.YtcnmefocbjilbaaW.PrintMore
open Go.Proofs.YtcnmefocbjilbaaFlat
set_option maxHeartbeats 1000000

theorem refDo_calls (A : Option Addr) (c : Nat) (l : List S40) (x : S26) (w : World) (HR : Kd.C k40 w A l.length l) (hl : l.length < 2199023255551) :
    Calls Try.prog 12 #[.slice A l.length c, .agg (cellsC x)] w (DoPost l x w) := by
  cases hr : rightB l with
  | false => exact refDo_wrong A c l x w HR hl hr
  | true =>
    by_cases h2 : x.f0 < 2
    · exact refDo_low A c l x w HR hl hr h2
    by_cases h6 : 6 < x.f0
    · exact refDo_high A c l x w HR hl hr h6
    by_cases h6' : x.f0 = 6
    · cases hs : scanOk x with
      | false => exact refDo_arg A c l x w HR hl hr h6' hs
      | true => exact refDo_scan A c l x w HR hl hr h6' hs
    cases ho : okCall x with
    | false => exact refDo_long A c l x w HR hl hr (by omega) (by omega) ho
    | true =>
      by_cases e2 : x.f0 = 2
      · exact refDo_get A c l x w HR hl hr e2 ho
      by_cases e3 : x.f0 = 3
      · exact refDo_insert A c l x w HR hl hr e3 ho
      by_cases e4 : x.f0 = 4
      · exact refDo_update A c l x w HR hl hr e4 ho
      exact refDo_delete A c l x w HR hl hr (by omega) ho
end Go.Proofs.Ytcnmefocbjilbaa.G
namespace Go.Proofs.Ytcnmefocbjilbaa.G
open Go.RowKit Go.Proofs.YtcnmefocbjilbaaW.PrintWords Go.Proofs.YtcnmefocbjilbaaW.PrintLast Go.Proofs.YtcnmefocbjilbaaW.PrintMore
open Go.Proofs.YtcnmefocbjilbaaFlat
set_option maxHeartbeats 1000000
set_option maxRecDepth 20000

def TruePost (w : World) (e : Ending) (w' : World) : Prop := e = .returned (.bool true) ∧ Below w.heap.size w w'
theorem own_ok {w : World} {base : Nat} {v : Value} {xs : List S40} {ok : Nat → Prop} (h : Own w base v xs) (hok : ∀ k, v.ownBlock = some k → ok k) : Kd.R k40 40 w base ok v xs :=
  ⟨hok, h.2.imp_ (fun _ _ hp => by rw [k40_openM hp]; exact k40_mkM _ _ _ _)⟩
theorem own_grown {w w' : World} {base g : Nat} {v : Value} {xs : List S40} (h : Own w base v xs) (hg : w.grownBy w' (some g)) (hne : v.ownBlock ≠ some g) : Own w' base v xs :=
  Kd.R_mono (Kd.R_grown (own_ok (ok := fun k => k ≠ g) h (fun k hk e => hne (e ▸ hk))) hg (fun k hk e => hk (Option.some.inj e))) (fun _ _ => trivial)
/-- Where ModelDoes stands, once both have answered: a's row, the reply, its cells. -/
structure Tn (B b7 : Nat) (w3 W : World) (va : Value) (n : Nat) (cs : Array Value) (vc : Value) (m : Nat) : Prop where
  below : Below B w3 W
  a : ∃ la : List S40, la.length = n ∧ Own W B va la
  c : ∃ lc : List S40, lc.length = m ∧ Own W B vc lc
  r : W.heap[b7]? = some (.cells cs 34 (0, 0))
  sz : B ≤ W.heap.size
theorem Tn.mv {B b7 : Nat} {w3 W W' : World} {va vc : Value} {n m : Nat} {cs : Array Value} (h : Tn B b7 w3 W va n cs vc m) (hb : Below W.heap.size W W') : Tn B b7 w3 W' va n cs vc m := by
  obtain ⟨la, e1, h1⟩ := h.a
  obtain ⟨lc, e2, h2⟩ := h.c
  exact ⟨h.below.trans (hb.mono h.sz), ⟨la, e1, Kd.R_below h1 hb⟩, ⟨lc, e2, Kd.R_below h2 hb⟩, blk_below h.r hb, Nat.le_trans h.sz hb.size⟩
/-- A store into a's row. -/
theorem Tn.turnA {B b7 g cap : Nat} {w3 W : World} {vc : Value} {n m : Nat} {cs : Array Value} (h : Tn B b7 w3 W (.slice (some ⟨g, 0, none⟩) n cap) n cs vc m) (hap : vc.ownBlock ≠ some g) (i : Nat) (hi : i < n) (q : ByteArray) :
    Tn B b7 w3 (W.setCell ⟨g, i * 2 + 1, none⟩ (.string q)) (.slice (some ⟨g, 0, none⟩) n cap) n cs vc m ∧ (∃ u, W.cell? ⟨g, i * 2 + 1, none⟩ = some u) ∧ W.frozen? ⟨g, i * 2 + 1, none⟩ = false := by
  obtain ⟨la, rfl, h1⟩ := h.a
  obtain ⟨lc, e2, h2⟩ := h.c
  obtain ⟨s1, s2, s3, s4⟩ := setV h1 i hi q
  have hgB := Kd.R_base h1 g rfl
  have hg7 : b7 ≠ g := fun e => by
    have := Kd.R_ne h1 h.r (by decide)
    exact this (by rw [e]; rfl)
  have h7 : b7 < W.heap.size := (Array.getElem?_eq_some_iff.1 h.r).1
  refine ⟨⟨h.below.grown s2 h.sz (fun j hj => by cases hj; exact hgB), ⟨_, by rw [List.length_set], s1⟩, ⟨lc, e2, own_grown h2 s2 hap⟩, (s2.block b7 h7 (fun e => hg7 (Option.some.inj e))).trans h.r, Nat.le_trans h.sz s2.size⟩, s3, s4⟩
/-- A store into the reply's cells. -/
theorem Tn.turnC {B b7 g cap : Nat} {w3 W : World} {va : Value} {n m : Nat} {cs : Array Value} (h : Tn B b7 w3 W va n cs (.slice (some ⟨g, 0, none⟩) m cap) m) (hap : va.ownBlock ≠ some g) (i : Nat) (hi : i < m) (q : ByteArray) :
    Tn B b7 w3 (W.setCell ⟨g, i * 2 + 1, none⟩ (.string q)) va n cs (.slice (some ⟨g, 0, none⟩) m cap) m ∧ (∃ u, W.cell? ⟨g, i * 2 + 1, none⟩ = some u) ∧ W.frozen? ⟨g, i * 2 + 1, none⟩ = false := by
  obtain ⟨la, e1, h1⟩ := h.a
  obtain ⟨lc, rfl, h2⟩ := h.c
  obtain ⟨s1, s2, s3, s4⟩ := setV h2 i hi q
  have hgB := Kd.R_base h2 g rfl
  have hg7 : b7 ≠ g := fun e => by
    have := Kd.R_ne h2 h.r (by decide)
    exact this (by rw [e]; rfl)
  have h7 : b7 < W.heap.size := (Array.getElem?_eq_some_iff.1 h.r).1
  refine ⟨⟨h.below.grown s2 h.sz (fun j hj => by cases hj; exact hgB), ⟨la, e1, own_grown h1 s2 hap⟩, ⟨_, by rw [List.length_set], s1⟩, (s2.block b7 h7 (fun e => hg7 (Option.some.inj e))).trans h.r, Nat.le_trans h.sz s2.size⟩, s3, s4⟩
end Go.Proofs.Ytcnmefocbjilbaa.G
