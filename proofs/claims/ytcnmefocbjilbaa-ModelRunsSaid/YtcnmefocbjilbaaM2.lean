/- Part of the seat's claims: model.Do answers doS; the comparisons of cells and replies. -/
import Derived.Test.YtcnmefocbjilbaaM1
import Derived.Laws.CopyRow
import Derived.Laws.IdiomCopy
import Derived.MapKept
import Derived.BigQuiet
set_option linter.unusedVariables false
set_option linter.unusedSimpArgs false
namespace Go.Proofs.Ytcnmefocbjilbaa.G
open Go.RowKit Go.Proofs.YtcnmefocbjilbaaW.PrintWords Go.Proofs.YtcnmefocbjilbaaW.PrintLast Go.Proofs.YtcnmefocbjilbaaW.PrintMore
open Go.Proofs.YtcnmefocbjilbaaFlat
set_option maxHeartbeats 1000000

/-- copy(v, l), v a row of one's own, of l's length. -/
theorem run_copy40 (W : World) (ty : TypeId) (base : Nat) (v : Value) (xs l : List S40) (A : Option Addr) (c : Nat) (hl : xs.length = l.length) (HO : Own W base v xs) (HR : Kd.C k40 W A l.length l) :
    ∃ w1, (Builtin.copy_ #[22, 22] ty #[v, .slice A l.length c]).run Try.prog W = .ok (goInt l.length) w1 ∧ Own w1 base v l ∧ W.grownBy w1 v.ownBlock ∧ w1.heap.size = W.heap.size := by
  obtain ⟨i0, hi, hz0, hz1, hz2⟩ := info_parts info40
  obtain ⟨inner, hown⟩ := Kd.R_own HO
  rcases Nat.eq_zero_or_pos l.length with h0 | hp
  · obtain rfl : l = [] := List.length_eq_zero_iff.1 h0
    obtain rfl : xs = [] := List.length_eq_zero_iff.1 (by simpa using hl)
    obtain ⟨A', c', rfl⟩ := Kd.R_slice HO
    refine ⟨W, ?_, HO, World.grownBy.refl W _, rfl⟩
    have hl : ∀ (x : Addr), (loadCells x 0).run Try.prog W = .ok #[] W := fun x => by simpa using run_loadCells_list (P := Try.prog) W x [] (by simp)
    cases A' <;> cases A <;> simp [Builtin.copy_, run_underlying Try.underlying22, Builtin.lenOf, Builtin.firstCells, sizeOf, typeInfo, hi, storeCells, hl]
  · obtain ⟨ad, rfl, _⟩ := HR.2.2 hp
    have hsrc := C_flat HR ad rfl
    rcases hown.2 with ⟨_, hx0⟩ | ⟨g, cap, cur, rfl, hb, hh, hnc, hcm, hcs, htake⟩
    · omega
    have hsz : k40.sz = 2 := rfl
    rw [hsz] at hcs
    have hfl := flat40_length l
    have hld := run_loadCells_list (P := Try.prog) W ad (flat40 l) hsrc
    have hst := run_storeCells_at Try.prog g 0 40 (flat40 l) 0 cur W hh (by omega) (fun u hu => by
      simp only [flat40, List.mem_flatMap] at hu
      obtain ⟨y, _, hy⟩ := hu
      simp only [List.mem_cons, List.not_mem_nil, or_false] at hy
      rcases hy with rfl | rfl <;> rfl)
    refine ⟨_, ?_, own_of_flat (w := W.setRow g ((cur.toList.take (0 + 0) ++ flat40 l ++ cur.toList.drop (0 + 0 + (flat40 l).length)).toArray)) (base := base) (v := .slice (some ⟨g, 0, none⟩) xs.length cap) (xs := l) ⟨hfl, .inr ⟨g, cap, _, by rw [hl], hb, setRow_heap W g cur _ 40 _ hh, by omega, hcm, ?_, ?_⟩⟩, ?_, ?_⟩
    · have e2 : (loadCells ad (l.length * 2)).run Try.prog W = .ok (flat40 l).toArray W := by rw [← hfl]; exact hld
      simp [Builtin.copy_, run_underlying Try.underlying22, Builtin.lenOf, Builtin.firstCells, sizeOf, typeInfo, hi, hz1, hl, e2, hst]
    · simp; omega
    · simp [← hfl]
    · exact ⟨rfl, rfl, rfl, by simp, fun k _ hk => setRow_other W g k _ (fun e => hk (by rw [e]; rfl))⟩
    · simp

section
variable {ops : Array Oper} {o : Oper} {a : Act} {rest : List Oper} {Q : Exit → Act → World → Prop}
theorem copyRow {w0 W : World} (base : Nat) (hgd : o.guard = none) (s x : Operand) (ho : o.op = .call { callee := .builtin .copy, args := #[s, x], argTypes := #[22, 22] })
    (v : Value) (xs l : List S40) (A : Option Addr) (c : Nat) (hs : a.eval s = v) (hx : a.eval x = .slice A l.length c) (hl : xs.length = l.length) (HO : Own W base v xs) (HR : Kd.C k40 W A l.length l) (HB : Below base w0 W) (hbase : base ≤ W.heap.size)
    (h : ∀ w1, Own w1 base v l → Below base w0 w1 → W.grownBy w1 v.ownBlock → w1.heap.size = W.heap.size → wpList Try.prog ops Q rest (a.put o.dst (.int .i64 (l.length : Int))) w1) :
    wpList Try.prog ops Q (o :: rest) a W := by
  obtain ⟨w1, hr, h1, hg, hz⟩ := run_copy40 W o.type base v xs l A c hl HO HR
  refine wpList_plain hgd fun K hK => ?_
  unfold Oper.wp execOp
  simp only [ho, resolve, invoke, builtin, Sem.run_bind, Sem.run_pure, Result.andThen_ok, List.map_toArray, List.map_cons, List.map_nil, hs, hx, hr]
  refine hK _ _ (h w1 h1 (HB.grown hg hbase ?_) hg hz)
  obtain ⟨inner, hown⟩ := Kd.R_own HO
  exact own_base hown
end

/-! ### what Do computes -/
def noReply (what e : Int) : S34 := ⟨0, what, e, 0, false, ⟨#[]⟩, []⟩
def isIn (k : ByteArray) (l : List S40) : Bool := (findV l k).isSome
def doS (l : List S40) (x : S26) : List S40 × S34 :=
  if rightB l = false then ([], noReply x.f0 100)
  else if hasKey x = true ∧ okCall x = false then (l, noReply x.f0 3)
  else if x.f0 = 2 then (l, ⟨0, x.f0, 0, 0, isIn x.f1 l, (findV l x.f1).getD ⟨#[]⟩, []⟩)
  else if x.f0 = 3 then (if isIn x.f1 l then (l, noReply x.f0 8) else (putS l ⟨x.f1, x.f2⟩, noReply x.f0 0))
  else if x.f0 = 4 then (if isIn x.f1 l then (putS l ⟨x.f1, x.f2⟩, noReply x.f0 0) else (l, noReply x.f0 7))
  else if x.f0 = 5 then (if isIn x.f1 l then (l.filter (fun y => !isKey x.f1 y), noReply x.f0 0) else (l, noReply x.f0 7))
  else if x.f0 = 6 then (if scanOk x then (l, ⟨0, x.f0, 0, 0, decide (x.f4 < (scanAll l x).length), ⟨#[]⟩, (scanAll l x).take x.f4.toNat⟩) else (l, noReply x.f0 2))
  else (l, noReply x.f0 2)
def OwnC (w : World) (base : Nat) (v : Value) (xs : List S40) : Prop := ∃ A c, v = .slice A xs.length c ∧ xs.length ≤ c ∧ ∃ cap, Own w base (.slice A xs.length cap) xs
def DoPost (l : List S40) (x : S26) (w : World) (e : Ending) (w' : World) : Prop :=
  ∃ va vc, e = .returned (.tuple #[va, .agg #[.int .i64 0, .int .u8 x.f0, .int .i64 (doS l x).2.f2, .int .u64 0, .bool (doS l x).2.f4, .string (doS l x).2.f5, vc]]) ∧
    Own w' w.heap.size va (doS l x).1 ∧ OwnC w' w.heap.size vc (doS l x).2.f6 ∧ (∀ k, va.ownBlock = some k → vc.ownBlock ≠ some k) ∧ Below w.heap.size w w'
end Go.Proofs.Ytcnmefocbjilbaa.G
namespace Go.Proofs.Ytcnmefocbjilbaa.G
open Go.RowKit Go.Proofs.YtcnmefocbjilbaaW.PrintWords Go.Proofs.YtcnmefocbjilbaaW.PrintLast Go.Proofs.YtcnmefocbjilbaaW.PrintMore
open Go.Proofs.YtcnmefocbjilbaaFlat
set_option maxHeartbeats 1000000

/-- Do's four variables are laid. -/
def startW (A : Option Addr) (n c : Nat) (x : S26) (w : World) : World :=
  (((w.alloc (.cells #[.slice A n c] 22 (0, 0))).alloc (.cells #[.int .u8 x.f0, .string x.f1, .string x.f2, .string x.f3.f0, .string x.f3.f1, .bool x.f3.f2, .int .i64 x.f4] 26 (0, 0))).alloc (.cells #[.slice none 0 0] 22 (0, 0))).alloc (.cells #[.int .i64 0, .int .u8 x.f0, .int .i64 0, .int .u64 0, .bool false, .string ⟨#[]⟩, .slice none 0 0] 34 (0, 0))
theorem start_size (A : Option Addr) (n c : Nat) (x : S26) (w : World) : (startW A n c x w).heap.size = w.heap.size + 4 := by simp [startW]
theorem start_below (A : Option Addr) (n c : Nat) (x : S26) (w : World) : Below w.heap.size w (startW A n c x w) :=
  below_alloc (below_alloc (below_alloc (below_alloc (Below.refl _ _) _) _) _) _
theorem push4_get (h : Array Obj) (a b c d : Obj) : (((((h.push a).push b).push c).push d)[h.size]? = some a) ∧ (((((h.push a).push b).push c).push d)[h.size + 1]? = some b) ∧ (((((h.push a).push b).push c).push d)[h.size + 1 + 1]? = some c) ∧ (((((h.push a).push b).push c).push d)[h.size + 1 + 1 + 1]? = some d) := by
  simp only [Array.getElem?_push, Array.size_push]
  refine ⟨?_, ?_, ?_, ?_⟩
  · rw [if_neg (by omega), if_neg (by omega), if_neg (by omega), if_pos trivial]
  · rw [if_neg (by omega), if_neg (by omega), if_pos trivial]
  · rw [if_neg (by omega), if_pos trivial]
  · rw [if_pos trivial]
theorem start_l (A : Option Addr) (n c : Nat) (x : S26) (w : World) : (startW A n c x w).heap[w.heap.size]? = some (.cells #[.slice A n c] 22 (0, 0)) := (push4_get w.heap _ _ _ _).1
theorem start_x (A : Option Addr) (n c : Nat) (x : S26) (w : World) : (startW A n c x w).heap[w.heap.size + 1]? = some (.cells #[.int .u8 x.f0, .string x.f1, .string x.f2, .string x.f3.f0, .string x.f3.f1, .bool x.f3.f2, .int .i64 x.f4] 26 (0, 0)) := (push4_get w.heap _ _ _ _).2.1
theorem start_vars (A : Option Addr) (n c : Nat) (x : S26) (w : World) : Vars (startW A n c x w) w.heap.size (w.heap.size + 1) A n c x := ⟨start_l .., start_x ..⟩
theorem start_out (A : Option Addr) (n c : Nat) (x : S26) (w : World) : (startW A n c x w).heap[w.heap.size + 1 + 1]? = some (.cells #[.slice none 0 0] 22 (0, 0)) := (push4_get w.heap _ _ _ _).2.2.1
theorem start_reply (A : Option Addr) (n c : Nat) (x : S26) (w : World) : (startW A n c x w).heap[w.heap.size + 1 + 1 + 1]? = some (.cells #[.int .i64 0, .int .u8 x.f0, .int .i64 0, .int .u64 0, .bool false, .string ⟨#[]⟩, .slice none 0 0] 34 (0, 0)) := (push4_get w.heap _ _ _ _).2.2.2

theorem own_only {w w' : World} {base b : Nat} {v : Value} {xs : List S40} {cs0 cs : Array Value} {t : TypeId} (h : Own w base v xs) (h0 : w.heap[b]? = some (.cells cs0 t (0, 0))) (ho : Only w w' b cs t) (ht : (40 : Nat) ≠ t) : Own w' base v xs :=
  Kd.R_mono (Kd.R_step (Kd.R_types h h0 (by intro q hq; simp [k40, Kd.iso, Kd.pair, Kd.string, Kd.scalar] at hq; rw [hq]; exact ht)) (fun k hk _ => ho.other k hk.2)) (fun _ _ => trivial)
theorem do_results {b2 b3 : Nat} {tmps : Array Value} (h4 : tmps[4]? = some (.pointer (some ⟨b2, 0, none⟩))) (h5 : tmps[5]? = some (.pointer (some ⟨b3, 0, none⟩))) {w : World} {va y0 y1 y2 y3 y4 y5 y6 : Value}
    (ho : w.heap[b2]? = some (.cells #[va] 22 (0, 0))) (hr : w.heap[b3]? = some (.cells #[y0, y1, y2, y3, y4, y5, y6] 34 (0, 0))) : (results Try.f11 tmps).run Try.prog w = .ok (.tuple #[va, .agg #[y0, y1, y2, y3, y4, y5, y6]]) w := by
  have c0 := (blk_cell ho 0).trans rfl
  have r0 := (blk_cell hr 0).trans rfl
  have r1 := (blk_cell hr 1).trans rfl
  have r2 := (blk_cell hr 2).trans rfl
  have r3 := (blk_cell hr 3).trans rfl
  have r4 := (blk_cell hr 4).trans rfl
  have r5 := (blk_cell hr 5).trans rfl
  have r6 := (blk_cell hr 6).trans rfl
  simp [results, Try.results11, go_sem, h4, h5, c0, r0, r1, r2, r3, r4, r5, r6]

theorem Do_wrong (A : Option Addr) (c : Nat) (l : List S40) (x : S26) (w : World) (HR : Kd.C k40 w A l.length l) (hr : rightB l = false) :
    Calls Try.prog 11 #[.slice A l.length c, .agg (cellsC x)] w (DoPost l x w) := by
  have HR0 := Aside0.mk HR
  have HK := Aside0.mk hr
  clear HR hr
  unfold cellsC
  have hmf : ∀ (fn : Fn) (first cap : Array Value) (w : World), (Instr.makeFunc fn first cap).run Try.prog w = .ok (.func fn first cap) w := fun _ _ _ _ => rfl
  go_enter_defers Try.func11, Try.ntmps11
  go_wp2_with fail
  show Calls Try.prog 24 _ (startW A l.length c x w) _
  refine (cells_Right_calls A c l _ (Kd.C_below HR0.out (start_below A l.length c x w))).mono ?_
  rintro e w1 ⟨he, hb⟩
  rw [HK.out] at he
  obtain rfl := he
  have HB := Aside0.mk ((start_below A l.length c x w).trans (hb.mono (by rw [start_size]; omega)))
  have ho := blk_below (start_out A l.length c x w) hb
  have hr := blk_below (start_reply A l.length c x w) hb
  have HO := Aside0.mk ho
  have HRp := Aside0.mk hr
  have o0 := (blk_cell ho 0).trans rfl
  have r0 := (blk_cell hr 0).trans rfl
  have r1 := (blk_cell hr 1).trans rfl
  have r2 := (blk_cell hr 2).trans rfl
  have r3 := (blk_cell hr 3).trans rfl
  have r4 := (blk_cell hr 4).trans rfl
  have r5 := (blk_cell hr 5).trans rfl
  have r6 := (blk_cell hr 6).trans rfl
  have fo := blk_frozen ho 0
  have f0 := blk_frozen hr 0
  have f1 := blk_frozen hr 1
  have f2 := blk_frozen hr 2
  have f3 := blk_frozen hr 3
  have f4 := blk_frozen hr 4
  have f5 := blk_frozen hr 5
  have f6 := blk_frozen hr 6
  clear hb ho hr
  go_wp2
  go_region
  go_wp2
  have n1 : w.heap.size + 1 + 1 ≠ w.heap.size + 1 + 1 + 1 := by omega
  have h1 : Only w1 _ (w.heap.size + 1 + 1 + 1) #[.int .i64 0, .int .u8 x.f0, .int .i64 100, .int .u64 0, .bool false, .string ⟨#[]⟩, .slice none 0 0] 34 := (Only.refl HRp.out).set 2 (.int .i64 100)
  have h2 : Only _ _ (w.heap.size + 1 + 1) #[.slice none 0 0] 22 := (Only.refl ((h1.other _ n1).trans HO.out)).set 0 (.slice none 0 0)
  have h3 : Only _ _ (w.heap.size + 1 + 1 + 1) #[.int .i64 0, .int .u8 x.f0, .int .i64 100, .int .u64 0, .bool false, .string ⟨#[]⟩, .slice none 0 0] 34 := ((((((((Only.refl ((h2.other _ n1.symm).trans h1.here)).set 0 (.int .i64 0)).set 1 (.int .u8 x.f0)).set 2 (.int .i64 100)).set 3 (.int .u64 0)).set 4 (.bool false)).set 5 (.string ⟨#[]⟩)).set 6 (.slice none 0 0)).drew
  have e : doS l x = ([], noReply x.f0 100) := by unfold doS; rw [if_pos HK.out]
  simp only [bodyPostD, Leaves]
  refine ⟨_, do_results (b2 := w.heap.size + 1 + 1) (b3 := w.heap.size + 1 + 1 + 1) (by rfl) (by rfl) ((h3.other _ n1).trans h2.here) h3.here, ?_⟩
  refine ⟨.slice none 0 0, .slice none 0 0, ?_, ?_, ?_, ?_, ?_⟩
  · rw [e]; rfl
  · rw [e]; exact Kd.R_nil k40 40 _ _ _
  · rw [e]; exact ⟨none, 0, rfl, Nat.le_refl _, 0, Kd.R_nil k40 40 _ _ _⟩
  · intro k hk; cases hk
  · exact ((HB.out.trans (h1.below (by omega))).trans (h2.below (by omega))).trans (h3.below (by omega))
end Go.Proofs.Ytcnmefocbjilbaa.G
namespace Go.Proofs.Ytcnmefocbjilbaa.G
open Go.RowKit Go.Proofs.YtcnmefocbjilbaaW.PrintWords Go.Proofs.YtcnmefocbjilbaaW.PrintLast Go.Proofs.YtcnmefocbjilbaaW.PrintMore
open Go.Proofs.YtcnmefocbjilbaaFlat
set_option maxHeartbeats 1000000

def madeO (n : Nat) : Obj := .cells (madeCells #[.string ⟨#[]⟩, .string ⟨#[]⟩] (n * 2)) 40 (0, 0)
theorem make40 (n : Nat) (hn : n < 4398046511104) (W : World) : (Instr.makeSlice 22 (.int .i64 (n : Int)) (.int .i64 (n : Int))).run Try.prog W = .ok (.slice (some ⟨W.heap.size, 0, none⟩) n n) (W.alloc (madeO n)) := by
  obtain ⟨i0, hi, hz0, hz1, hz2⟩ := info_parts info40
  have hr := run_make (P := Try.prog) W 22 40 i0 _ Try.underlying22 hi hz0 .i64 .i64 (n : Int) (n : Int) (by omega) (by omega) (by rw [hz2]; omega) (by omega)
  simp only [Int.toNat_natCast] at hr
  rw [hz1] at hr
  exact hr
theorem heap_new (W : World) (o : Obj) : (W.alloc o).heap[W.heap.size]? = some o := by
  show (W.heap.push o)[W.heap.size]? = _
  simp
theorem own_made40 (n : Nat) (hn : n < 4398046511104) (W : World) (base : Nat) (hb : base ≤ W.heap.size) : Own (W.alloc (madeO n)) base (.slice (some ⟨W.heap.size, 0, none⟩) n n) (List.replicate n z40) := by
  have hr : Reps (k40.M (W.alloc (madeO n)) base (fun k => True ∧ some k ≠ (Value.slice (some ⟨W.heap.size, 0, none⟩) n n).ownBlock)) 2 (List.replicate n z40) (madeCells (Value.agg #[.string ⟨#[]⟩, .string ⟨#[]⟩]).cells (n * 2)).toList :=
    Kd.reps_made (z := .agg #[.string ⟨#[]⟩, .string ⟨#[]⟩]) rfl (by decide) (k40_mkM _ _ _ z40) n
  refine ⟨fun _ _ => trivial, _, ⟨hr.1, .inr ⟨W.heap.size, n, _, by rw [List.length_replicate], hb, heap_new W _, by simp, by simp only [maxLen]; omega, ?_, ?_⟩⟩, hr⟩
  · rw [size_madeCells]; rfl
  · rw [List.length_replicate]
    exact List.take_of_length_le (by rw [Array.length_toList, size_madeCells]; exact Nat.le_refl _)

/-- Where Do stands, once the map is right: its variables, and the copy. -/
structure St (w w' : World) (A : Option Addr) (c : Nat) (l : List S40) (x : S26) (va : Value) (cs : Array Value) : Prop where
  below : Below w.heap.size w w'
  size : w.heap.size + 4 ≤ w'.heap.size
  vars : Vars w' w.heap.size (w.heap.size + 1) A l.length c x
  out : w'.heap[w.heap.size + 1 + 1]? = some (.cells #[va] 22 (0, 0))
  reply : w'.heap[w.heap.size + 1 + 1 + 1]? = some (.cells cs 34 (0, 0))
  own : Own w' w.heap.size va l
theorem St.mv {w w' w'' : World} {A : Option Addr} {c : Nat} {l : List S40} {x : S26} {va : Value} {cs : Array Value} (h : St w w' A c l x va cs) (hb : Below w'.heap.size w' w'') : St w w'' A c l x va cs :=
  ⟨h.below.trans (hb.mono h.below.size), Nat.le_trans h.size hb.size, h.vars.below hb, blk_below h.out hb, blk_below h.reply hb, Kd.R_below h.own hb⟩
theorem St.alloc {w w' : World} {A : Option Addr} {c : Nat} {l : List S40} {x : S26} {va : Value} {cs : Array Value} (h : St w w' A c l x va cs) (o : Obj) : St w (w'.alloc o) A c l x va cs := h.mv (below_alloc (Below.refl _ _) o)
theorem St.drew {w w' : World} {A : Option Addr} {c : Nat} {l : List S40} {x : S26} {va : Value} {cs : Array Value} (h : St w w' A c l x va cs) : St w w'.drew A c l x va cs := h.mv (below_drew (Below.refl _ _))

/-- The copy has been made: where Do stands then. -/
theorem copied {A : Option Addr} {c : Nat} {l : List S40} {x : S26} {w w1 w3 : World} {cs : Array Value} (hl : l.length < 4398046511102) (HB : Below w.heap.size w w1) (hz : w.heap.size + 4 ≤ w1.heap.size) (HV : Vars w1 w.heap.size (w.heap.size + 1) A l.length c x)
    (HO : w1.heap[w.heap.size + 1 + 1]? = some (.cells #[.slice none 0 0] 22 (0, 0))) (HRp : w1.heap[w.heap.size + 1 + 1 + 1]? = some (.cells cs 34 (0, 0)))
    (h1 : Own w3 w1.heap.size (.slice (some ⟨w1.heap.size, 0, none⟩) l.length l.length) l)
    (h2 : Below w1.heap.size ((w1.alloc (madeO l.length)).setCell ⟨w.heap.size + 1 + 1, 0, none⟩ (.slice (some ⟨w1.heap.size, 0, none⟩) l.length l.length)) w3) :
    St w w3 A c l x (.slice (some ⟨w1.heap.size, 0, none⟩) l.length l.length) cs := by
  have hba := below_alloc (Below.refl w1.heap.size w1) (madeO l.length)
  have hO := Only.set (Only.refl (blk_below HO hba)) 0 (.slice (some ⟨w1.heap.size, 0, none⟩) l.length l.length)
  have g : ∀ k, k < w1.heap.size → k ≠ w.heap.size + 1 + 1 → w3.heap[k]? = w1.heap[k]? := fun k hk hn => (h2.block k hk).trans ((hO.other k hn).trans (hba.block k hk))
  have hs : w1.heap.size < w3.heap.size := by
    have e := h2.size
    have e2 : ((w1.alloc (madeO l.length)).setCell ⟨w.heap.size + 1 + 1, 0, none⟩ (.slice (some ⟨w1.heap.size, 0, none⟩) l.length l.length)).heap.size = w1.heap.size + 1 := by rw [hO.size]; simp
    omega
  refine ⟨⟨h2.os.trans ((hO.os.trans hba.os).trans HB.os), h2.tape.trans ((hO.tape.trans hba.tape).trans HB.tape), h2.output.trans ((hO.output.trans hba.output).trans HB.output), by omega, fun k hk => ?_⟩, by omega, ⟨?_, ?_⟩, ?_, ?_, ?_⟩
  · rw [g k (by omega) (by omega)]; exact HB.block k hk
  · rw [g _ (by omega) (by omega)]; exact HV.l
  · rw [g _ (by omega) (by omega)]; exact HV.x
  · rw [h2.block _ (by omega)]; exact hO.here
  · rw [g _ (by omega) (by omega)]; exact HRp
  · exact Kd.R_lower h1 (by omega)

/-- A panic of must's goes through the door. -/
theorem refused {A : Option Addr} {c : Nat} {l : List S40} {x : S26} {w w4 : World} {va y0 y1 y2 y3 y4 y5 y6 : Value} {tmps : Array Value} {k : Int} (HS : St w w4 A c l x va #[y0, y1, y2, y3, y4, y5, y6]) (e : doS l x = (l, noReply x.f0 k))
    (h4 : tmps[4]? = some (.pointer (some ⟨w.heap.size + 1 + 1, 0, none⟩))) (h5 : tmps[5]? = some (.pointer (some ⟨w.heap.size + 1 + 1 + 1, 0, none⟩))) :
    Leaves Try.prog Try.f11 tmps (DoPost l x w) [{ target := .fn (.func 25) #[.pointer (some ⟨w.heap.size + 1, 0, none⟩), .pointer (some ⟨w.heap.size + 1 + 1 + 1, 0, none⟩)], args := #[] }] (.panicking [{ v := .iface 31 (.int .i64 k), recovered := false }]) w4 := by
  refine leaves_cons (f := 25) (args := #[.pointer (some ⟨w.heap.size + 1, 0, none⟩), .pointer (some ⟨w.heap.size + 1 + 1 + 1, 0, none⟩)]) (by simp) (by simp [go_sem]) ?_
  refine (catch_panicking _ _ k [] _ _ _ _ _ _ _ x.f0 _ ((blk_cell HS.vars.x 0).trans rfl) HS.reply).mono ?_
  rintro e u' w5 ⟨rfl, rfl, h6⟩
  simp only [settle, List.dropWhile, Leaves]
  refine ⟨_, do_results (b2 := w.heap.size + 1 + 1) (b3 := w.heap.size + 1 + 1 + 1) h4 h5 ((h6.other _ (by omega)).trans HS.out) h6.here, ?_⟩
  unfold DoPost
  rw [e]
  exact ⟨va, .slice none 0 0, rfl, own_only HS.own HS.reply h6 (by decide), ⟨none, 0, rfl, Nat.le_refl _, 0, Kd.R_nil k40 40 _ _ _⟩, fun k _ => by simp [Value.ownBlock], HS.below.trans (h6.below (by omega))⟩
theorem Do_long (A : Option Addr) (c : Nat) (l : List S40) (x : S26) (w : World) (HR : Kd.C k40 w A l.length l) (hl : l.length < 4398046511102) (hr : rightB l = true) (hk : hasKey x = true) (ho : okCall x = false) :
    Calls Try.prog 11 #[.slice A l.length c, .agg (cellsC x)] w (DoPost l x w) := by
  have HR0 := Aside0.mk HR
  have HK := Aside0.mk hr
  have HK1 := Aside0.mk hk
  have HK2 := Aside0.mk ho
  clear HR hr hk ho
  unfold cellsC
  have hmf : ∀ (fn : Fn) (first cap : Array Value) (w : World), (Instr.makeFunc fn first cap).run Try.prog w = .ok (.func fn first cap) w := fun _ _ _ _ => rfl
  have hms := make40 l.length (by omega)
  go_enter_defers Try.func11, Try.ntmps11
  go_wp2_with fail
  show Calls Try.prog 24 _ (startW A l.length c x w) _
  refine (cells_Right_calls A c l _ (Kd.C_below HR0.out (start_below A l.length c x w))).mono ?_
  rintro e w1 ⟨he, hb⟩
  rw [HK.out] at he
  obtain rfl := he
  have HB := Aside0.mk ((start_below A l.length c x w).trans (hb.mono (by rw [start_size]; omega)))
  have hz : w.heap.size + 4 ≤ w1.heap.size := by have := hb.size; rw [start_size] at this; omega
  have HV := Aside0.mk ((start_vars A l.length c x w).below hb)
  have HO := Aside0.mk (blk_below (start_out A l.length c x w) hb)
  have HRp := Aside0.mk (blk_below (start_reply A l.length c x w) hb)
  have hba := below_alloc (Below.refl w1.heap.size w1) (madeO l.length)
  have l0w := (blk_cell HV.out.l 0).trans rfl
  have l0 := (blk_cell (HV.out.below hba).l 0).trans rfl
  have o0 := (blk_cell (blk_below HO.out hba) 0).trans rfl
  have fo := blk_frozen (blk_below HO.out hba) 0
  have hO2 := Only.set (Only.refl (blk_below HO.out hba)) 0 (.slice (some ⟨w1.heap.size, 0, none⟩) l.length l.length)
  have HM := Aside0.mk (own_only (own_made40 l.length (by omega) w1 w1.heap.size (Nat.le_refl _)) (blk_below HO.out hba) hO2 (by decide))
  have HL := Aside0.mk (Kd.C_below HR0.out ((HB.out.trans (hba.mono HB.out.size)).trans (hO2.below (by omega))))
  have hs2 : w1.heap.size ≤ ((w1.alloc (madeO l.length)).setCell ⟨w.heap.size + 1 + 1, 0, none⟩ (.slice (some ⟨w1.heap.size, 0, none⟩) l.length l.length)).heap.size := by rw [hO2.size]; simp
  clear hb hba hO2
  go_wp2_with ((with_reducible refine gate_builtin (b := .copy) (xs := #[.tmp 23, .tmp 24]) rfl ?_); go_must (refine copyRow (w0 := (w1.alloc (madeO l.length)).setCell ⟨w.heap.size + 1 + 1, 0, none⟩ (.slice (some ⟨w1.heap.size, 0, none⟩) l.length l.length)) w1.heap.size rfl (.tmp 23) (.tmp 24) rfl (.slice (some ⟨w1.heap.size, 0, none⟩) l.length l.length) (List.replicate l.length z40) l A c rfl rfl (by simp) HM.out HL.out (Below.refl _ _) hs2 ?_); intro w3 h1 h2 h3 h4; have HS := Aside0.mk (copied hl HB.out hz HV.out HO.out HRp.out h1 h2); have x0 := (blk_cell HS.out.vars.x 0).trans rfl; have x1 := (blk_cell HS.out.vars.x 1).trans rfl; have x2 := (blk_cell HS.out.vars.x 2).trans rfl; have x3 := (blk_cell HS.out.vars.x 3).trans rfl; have x4 := (blk_cell HS.out.vars.x 4).trans rfl; have x5 := (blk_cell HS.out.vars.x 5).trans rfl; have x6 := (blk_cell HS.out.vars.x 6).trans rfl; clear h1 h2 h3 h4 l0w l0 o0 fo)
  refine (key_calls x _).mono ?_
  rintro e w4 ⟨he, hb⟩
  rw [HK1.out, HK2.out] at he
  obtain rfl := he
  have HS4 := Aside0.mk (HS.out.mv hb)
  clear hb x0 x1 x2 x3 x4 x5 x6 HS HM HL
  go_wp2_with fail
  refine (must_no _ _).mono ?_
  rintro e w' ⟨rfl, rfl⟩
  simp only [bodyPostD]
  exact refused HS4.out (by unfold doS; rw [if_neg (by rw [HK.out]; decide), if_pos ⟨HK1.out, HK2.out⟩]) (by rfl) (by rfl)
end Go.Proofs.Ytcnmefocbjilbaa.G
namespace Go.Proofs.Ytcnmefocbjilbaa.G
open Go.RowKit Go.Proofs.YtcnmefocbjilbaaW.PrintWords Go.Proofs.YtcnmefocbjilbaaW.PrintLast Go.Proofs.YtcnmefocbjilbaaW.PrintMore
open Go.Proofs.YtcnmefocbjilbaaFlat
set_option maxHeartbeats 1000000

def ptr (b : Nat) : Value := .pointer (some ⟨b, 0, none⟩)
def doFs (b bv bi : Nat) : List Value := [.func (.func 29) #[] #[ptr bi, ptr bv, ptr (b + 1 + 1 + 1)], .func (.func 30) #[] #[ptr bi, ptr b, ptr (b + 1), ptr (b + 1 + 1)], .func (.func 32) #[] #[ptr bi, ptr b, ptr (b + 1), ptr (b + 1 + 1)], .func (.func 33) #[] #[ptr bi, ptr b, ptr (b + 1), ptr (b + 1 + 1)], .func (.func 35) #[] #[ptr (b + 1), ptr b, ptr (b + 1 + 1 + 1)]]
def doEs (b bv bi : Nat) : List MapEntry := (doFs b bv bi).zipIdx.map fun (f, i) => ⟨.int .u8 ((i : Int) + 2), f, i⟩
def mapO (b bv bi i : Nat) : Obj := .map ((doEs b bv bi).take i).toArray i
theorem under69 : Try.prog.underlying 69 = some (.map 5 1) := by kernel_rfl
theorem under5 : Try.prog.underlying 5 = some (.int .u8) := by kernel_rfl
theorem run_make69 (b bv bi : Nat) (W : World) : (Instr.makeMap 69 none).run Try.prog W = .ok (.map (some W.heap.size)) (W.alloc (mapO b bv bi 0)) := rfl
theorem alloc_set (W : World) (o o' : Obj) : ({ (W.alloc o) with heap := (W.alloc o).heap.setIfInBounds W.heap.size o' } : World) = W.alloc o' := by
  show ({ W with heap := (W.heap.push o).setIfInBounds W.heap.size o' } : World) = { W with heap := W.heap.push o' }
  congr 1
  apply Array.ext_getElem?
  intro k
  rw [Array.getElem?_setIfInBounds]
  simp only [Array.getElem?_push, Array.size_push]
  by_cases h : k = W.heap.size
  · subst h; simp
  · simp [h, Ne.symm h]
theorem run_ins (b bv bi i : Nat) (f : Value) (hf : (doFs b bv bi)[i]? = some f) (hi : i < 5) (W : World) : (Instr.mapUpdate 69 (.map (some W.heap.size)) (.int .u8 ((i : Int) + 2)) f).run Try.prog (W.alloc (mapO b bv bi i)) = .ok () (W.alloc (mapO b bv bi (i + 1))) := by
  have hb : (W.alloc (mapO b bv bi i)).heap[W.heap.size]? = some (.map ((doEs b bv bi).take i).toArray i) := heap_new W _
  have hfind : Instr.findNow (.int .u8) (.int .u8 ((i : Int) + 2)) ((doEs b bv bi).take i) 0 = some none := by
    match i, hi with
    | 0, _ => rfl
    | 1, _ => rfl
    | 2, _ => rfl
    | 3, _ => rfl
    | 4, _ => rfl
  have hlist : ((doEs b bv bi).take i).toArray.push ⟨.int .u8 ((i : Int) + 2), f, i⟩ = ((doEs b bv bi).take (i + 1)).toArray := by
    match i, hi, hf with
    | 0, _, hf => obtain rfl := Option.some.inj hf; rfl
    | 1, _, hf => obtain rfl := Option.some.inj hf; rfl
    | 2, _, hf => obtain rfl := Option.some.inj hf; rfl
    | 3, _, hf => obtain rfl := Option.some.inj hf; rfl
    | 4, _, hf => obtain rfl := Option.some.inj hf; rfl
  have hk := MapKept.run_checkKey (P := Try.prog) (w := W.alloc (mapO b bv bi i)) (k := .int .u8 ((i : Int) + 2)) under5 (show MapKept.IsKey (.int .u8) (.int .u8 ((i : Int) + 2)) from rfl) false 9999
  have hs := MapKept.run_setObj_map (P := Try.prog) (mapO b bv bi (i + 1)) hb
  rw [alloc_set] at hs
  have hs' : (setObj W.heap.size (.map (((doEs b bv bi).take i).toArray.push ⟨.int .u8 ((i : Int) + 2), f, i⟩) (i + 1))).run Try.prog (W.alloc (mapO b bv bi i)) = .ok () (W.alloc (mapO b bv bi (i + 1))) := by rw [hlist]; exact hs
  simp only [Instr.mapUpdate, Sem.run_bind, run_underlying under69, MapKept.run_getObj_map hb, hk, Instr.findKey, run_underlying under5, hfind, Result.andThen, Sem.run_pure, hs']
theorem run_look {b bv bi : Nat} {k : Int} (i : Nat) (f : Value) (hf : (doFs b bv bi)[i]? = some f) (hi : i < 5) (hk : k = (i : Int) + 2) (W : World) {m : Nat} (hm : W.heap[m]? = some (mapO b bv bi 5)) : (Instr.lookup 69 (.map (some m)) (.int .u8 k) false).run Try.prog W = .ok f W := by
  subst hk
  have hm' : W.heap[m]? = some (.map (doEs b bv bi).toArray 5) := hm
  have hfind : Instr.findNow (.int .u8) (.int .u8 ((i : Int) + 2)) (doEs b bv bi) 0 = some (some (i, f)) := by
    match i, hi, hf with
    | 0, _, hf => obtain rfl := Option.some.inj hf; rfl
    | 1, _, hf => obtain rfl := Option.some.inj hf; rfl
    | 2, _, hf => obtain rfl := Option.some.inj hf; rfl
    | 3, _, hf => obtain rfl := Option.some.inj hf; rfl
    | 4, _, hf => obtain rfl := Option.some.inj hf; rfl
  have hck := MapKept.run_checkKey (P := Try.prog) (w := W) (k := .int .u8 ((i : Int) + 2)) under5 (show MapKept.IsKey (.int .u8) (.int .u8 ((i : Int) + 2)) from rfl) (doEs b bv bi).toArray.isEmpty 9999
  simp only [Instr.lookup, Sem.run_bind, run_underlying under69, MapKept.run_getObj_map hm', hck, Instr.findKey, run_underlying under5, hfind, Result.andThen, Sem.run_pure]
  rfl
theorem run_look_no {b bv bi : Nat} {k : Int} (h : k < 2 ∨ 6 < k) (W : World) {m : Nat} (hm : W.heap[m]? = some (mapO b bv bi 5)) : (Instr.lookup 69 (.map (some m)) (.int .u8 k) false).run Try.prog W = .ok .nilFunc W := by
  have hm' : W.heap[m]? = some (.map (doEs b bv bi).toArray 5) := hm
  have hck := MapKept.run_checkKey (P := Try.prog) (w := W) (k := .int .u8 k) under5 (show MapKept.IsKey (.int .u8) (.int .u8 k) from rfl) (doEs b bv bi).toArray.isEmpty 9999
  have b2 : (k == 2) = false := beq_eq_false_iff_ne.mpr (by omega)
  have b3 : (k == 3) = false := beq_eq_false_iff_ne.mpr (by omega)
  have b4 : (k == 4) = false := beq_eq_false_iff_ne.mpr (by omega)
  have b5 : (k == 5) = false := beq_eq_false_iff_ne.mpr (by omega)
  have b6 : (k == 6) = false := beq_eq_false_iff_ne.mpr (by omega)
  have hfind : Instr.findNow (.int .u8) (.int .u8 k) (doEs b bv bi) 0 = some none := by
    have es : doEs b bv bi = [⟨.int .u8 2, .func (.func 29) #[] #[ptr bi, ptr bv, ptr (b + 1 + 1 + 1)], 0⟩, ⟨.int .u8 3, .func (.func 30) #[] #[ptr bi, ptr b, ptr (b + 1), ptr (b + 1 + 1)], 1⟩, ⟨.int .u8 4, .func (.func 32) #[] #[ptr bi, ptr b, ptr (b + 1), ptr (b + 1 + 1)], 2⟩, ⟨.int .u8 5, .func (.func 33) #[] #[ptr bi, ptr b, ptr (b + 1), ptr (b + 1 + 1)], 3⟩, ⟨.int .u8 6, .func (.func 35) #[] #[ptr (b + 1), ptr b, ptr (b + 1 + 1 + 1)], 4⟩] := rfl
    rw [es]
    simp [Instr.findNow, Instr.sameNow, b2, b3, b4, b5, b6]
  have hz : (Try.prog.info? 1).map (·.zero) = some (some .nilFunc) := by kernel_rfl
  obtain ⟨j, hj, hz⟩ := Option.map_eq_some_iff.mp hz
  have hzv : (zeroValue 1).run Try.prog W = .ok .nilFunc W := by
    have hz2 : Try.t1.zero = some .nilFunc := by kernel_rfl
    simp [zeroValue, hj, hz, hz2]
  simp only [Instr.lookup, Sem.run_bind, run_underlying under69, MapKept.run_getObj_map hm', hck, Instr.findKey, run_underlying under5, hfind, Result.andThen, Sem.run_pure, hzv]
  rfl
theorem under1 : Try.prog.underlying 1 = some (.func #[] #[] false) := by kernel_rfl
theorem run_eqlIn_func (d : Nat) (fn : Fn) (a b : Array Value) (w : World) : (Op.equalIn (d + 1) 1 (.func fn a b) .nilFunc).run Try.prog w = .ok false w := by
  simp [Op.equalIn, run_underlying under1]
theorem run_eqlIn_nofunc (d : Nat) (w : World) : (Op.equalIn (d + 1) 1 .nilFunc .nilFunc).run Try.prog w = .ok true w := by
  simp [Op.equalIn, run_underlying under1]
theorem run_neq_func (fn : Fn) (a b : Array Value) (w : World) : (binOp .neq 1 (.func fn a b) .nilFunc).run Try.prog w = .ok (.bool true) w := by
  have h : (Op.equal 1 (.func fn a b) .nilFunc).run Try.prog w = .ok false w := run_eqlIn_func 9999 fn a b w
  simp only [binOp]
  simp [h]
theorem run_neq_nofunc (w : World) : (binOp .neq 1 .nilFunc .nilFunc).run Try.prog w = .ok (.bool false) w := by
  have h : (Op.equal 1 .nilFunc .nilFunc).run Try.prog w = .ok true w := run_eqlIn_nofunc 9999 w
  simp only [binOp]
  simp [h]
theorem ownC_only {w w' : World} {base b : Nat} {v : Value} {xs : List S40} {cs0 cs : Array Value} {t : TypeId} (h : OwnC w base v xs) (h0 : w.heap[b]? = some (.cells cs0 t (0, 0))) (ho : Only w w' b cs t) (ht : (40 : Nat) ≠ t) : OwnC w' base v xs := by
  obtain ⟨A, c, e, hc, cap, hO⟩ := h
  exact ⟨A, c, e, hc, cap, own_only hO h0 ho ht⟩
/-- Do returns, behind its last region. -/
theorem fin16 {l out cells : List S40} {x : S26} {w w9 : World} {va vc : Value} {e2 : Int} {is : Bool} {v : ByteArray} {tmps : Array Value}
    (e : doS l x = (out, ⟨0, x.f0, e2, 0, is, v, cells⟩)) (HB : Below w.heap.size w w9)
    (ho : w9.heap[w.heap.size + 1 + 1]? = some (.cells #[va] 22 (0, 0))) (hr : w9.heap[w.heap.size + 1 + 1 + 1]? = some (.cells #[.int .i64 0, .int .u8 x.f0, .int .i64 e2, .int .u64 0, .bool is, .string v, vc] 34 (0, 0)))
    (HO : Own w9 w.heap.size va out) (HC : OwnC w9 w.heap.size vc cells) (hap : ∀ k, va.ownBlock = some k → vc.ownBlock ≠ some k)
    (h4 : tmps[4]? = some (.pointer (some ⟨w.heap.size + 1 + 1, 0, none⟩))) (h5 : tmps[5]? = some (.pointer (some ⟨w.heap.size + 1 + 1 + 1, 0, none⟩))) :
    Leaves Try.prog Try.f11 tmps (DoPost l x w) [{ target := .fn (.func 25) #[.pointer (some ⟨w.heap.size + 1, 0, none⟩), .pointer (some ⟨w.heap.size + 1 + 1 + 1, 0, none⟩)], args := #[] }] .returning
      ((((((((w9.setCell ⟨w.heap.size + 1 + 1, 0, none⟩ va).setCell ⟨w.heap.size + 1 + 1 + 1, 0, none⟩ (.int .i64 0)).setCell ⟨w.heap.size + 1 + 1 + 1, 1, none⟩ (.int .u8 x.f0)).setCell ⟨w.heap.size + 1 + 1 + 1, 2, none⟩ (.int .i64 e2)).setCell ⟨w.heap.size + 1 + 1 + 1, 3, none⟩ (.int .u64 0)).setCell ⟨w.heap.size + 1 + 1 + 1, 4, none⟩ (.bool is)).setCell ⟨w.heap.size + 1 + 1 + 1, 5, none⟩ (.string v)).setCell ⟨w.heap.size + 1 + 1 + 1, 6, none⟩ vc).drew := by
  have n1 : w.heap.size + 1 + 1 ≠ w.heap.size + 1 + 1 + 1 := by omega
  have h2 : Only w9 _ (w.heap.size + 1 + 1) #[va] 22 := (Only.refl ho).set 0 va
  have hr2 := (h2.other _ n1.symm).trans hr
  have h3 : Only _ _ (w.heap.size + 1 + 1 + 1) #[.int .i64 0, .int .u8 x.f0, .int .i64 e2, .int .u64 0, .bool is, .string v, vc] 34 := ((((((((Only.refl hr2).set 0 (.int .i64 0)).set 1 (.int .u8 x.f0)).set 2 (.int .i64 e2)).set 3 (.int .u64 0)).set 4 (.bool is)).set 5 (.string v)).set 6 vc).drew
  refine leaves_cons (f := 25) (args := #[.pointer (some ⟨w.heap.size + 1, 0, none⟩), .pointer (some ⟨w.heap.size + 1 + 1 + 1, 0, none⟩)]) (by simp) (by simp [go_sem]) ?_
  refine (catch_idle _ _ _).mono ?_
  rintro e' u' w5 ⟨rfl, rfl, rfl⟩
  simp only [settle, Leaves]
  refine ⟨_, do_results (b2 := w.heap.size + 1 + 1) (b3 := w.heap.size + 1 + 1 + 1) h4 h5 ((h3.other _ n1).trans h2.here) h3.here, ?_⟩
  unfold DoPost
  rw [e]
  exact ⟨va, vc, rfl, own_only (own_only HO ho h2 (by decide)) hr2 h3 (by decide), ownC_only (ownC_only HC ho h2 (by decide)) hr2 h3 (by decide), hap, (HB.trans (h2.below (by omega))).trans (h3.below (by omega))⟩
theorem noCells (w : World) (base : Nat) : OwnC w base (.slice none 0 0) [] := ⟨none, 0, rfl, Nat.le_refl _, 0, Kd.R_nil k40 40 _ _ _⟩
end Go.Proofs.Ytcnmefocbjilbaa.G
namespace Go.Proofs.Ytcnmefocbjilbaa.G
open Go.RowKit Go.Proofs.YtcnmefocbjilbaaW.PrintWords Go.Proofs.YtcnmefocbjilbaaW.PrintLast Go.Proofs.YtcnmefocbjilbaaW.PrintMore
open Go.Proofs.YtcnmefocbjilbaaFlat
set_option maxHeartbeats 1000000
set_option maxRecDepth 20000

theorem Do_get (A : Option Addr) (c : Nat) (l : List S40) (x : S26) (w : World) (HR : Kd.C k40 w A l.length l) (hc : l.length ≤ c) (hl : l.length < 4398046511102) (hr : rightB l = true) (hk : hasKey x = true) (ho : okCall x = true) (hf : x.f0 = 2) (is : Bool) (hi : isIn x.f1 l = is) :
    Calls Try.prog 11 #[.slice A l.length c, .agg (cellsC x)] w (DoPost l x w) := by
  have HR0 := Aside0.mk HR
  have HK := Aside0.mk hr
  have HK1 := Aside0.mk hk
  have HK2 := Aside0.mk ho
  have HI := Aside0.mk (show (findV l x.f1).isSome = is from hi)
  have HF := Aside0.mk hf
  clear HR hr hk ho hi hf
  unfold cellsC
  have hmf : ∀ (fn : Fn) (first cap : Array Value) (w : World), (Instr.makeFunc fn first cap).run Try.prog w = .ok (.func fn first cap) w := fun _ _ _ _ => rfl
  have hms := make40 l.length (by omega)
  go_enter_defers Try.func11, Try.ntmps11
  go_wp2_with fail
  show Calls Try.prog 24 _ (startW A l.length c x w) _
  refine (cells_Right_calls A c l _ (Kd.C_below HR0.out (start_below A l.length c x w))).mono ?_
  rintro e w1 ⟨he, hb⟩
  rw [HK.out] at he
  obtain rfl := he
  have HB := Aside0.mk ((start_below A l.length c x w).trans (hb.mono (by rw [start_size]; omega)))
  have hz : w.heap.size + 4 ≤ w1.heap.size := by have := hb.size; rw [start_size] at this; omega
  have HV := Aside0.mk ((start_vars A l.length c x w).below hb)
  have HO := Aside0.mk (blk_below (start_out A l.length c x w) hb)
  have HRp := Aside0.mk (blk_below (start_reply A l.length c x w) hb)
  have hba := below_alloc (Below.refl w1.heap.size w1) (madeO l.length)
  have l0w := (blk_cell HV.out.l 0).trans rfl
  have l0 := (blk_cell (HV.out.below hba).l 0).trans rfl
  have o0 := (blk_cell (blk_below HO.out hba) 0).trans rfl
  have fo := blk_frozen (blk_below HO.out hba) 0
  have hO2 := Only.set (Only.refl (blk_below HO.out hba)) 0 (.slice (some ⟨w1.heap.size, 0, none⟩) l.length l.length)
  have HM := Aside0.mk (own_only (own_made40 l.length (by omega) w1 w1.heap.size (Nat.le_refl _)) (blk_below HO.out hba) hO2 (by decide))
  have HL := Aside0.mk (Kd.C_below HR0.out ((HB.out.trans (hba.mono HB.out.size)).trans (hO2.below (by omega))))
  have hs2 : w1.heap.size ≤ ((w1.alloc (madeO l.length)).setCell ⟨w.heap.size + 1 + 1, 0, none⟩ (.slice (some ⟨w1.heap.size, 0, none⟩) l.length l.length)).heap.size := by rw [hO2.size]; simp
  clear hb hba hO2
  go_wp2_with ((with_reducible refine gate_builtin (b := .copy) (xs := #[.tmp 23, .tmp 24]) rfl ?_); go_must (refine copyRow (w0 := (w1.alloc (madeO l.length)).setCell ⟨w.heap.size + 1 + 1, 0, none⟩ (.slice (some ⟨w1.heap.size, 0, none⟩) l.length l.length)) w1.heap.size rfl (.tmp 23) (.tmp 24) rfl (.slice (some ⟨w1.heap.size, 0, none⟩) l.length l.length) (List.replicate l.length z40) l A c rfl rfl (by simp) HM.out HL.out (Below.refl _ _) hs2 ?_); intro w3 h1 h2 h3 h4; have HS := Aside0.mk (copied hl HB.out hz HV.out HO.out HRp.out h1 h2); have x0 := (blk_cell HS.out.vars.x 0).trans rfl; have x1 := (blk_cell HS.out.vars.x 1).trans rfl; have x2 := (blk_cell HS.out.vars.x 2).trans rfl; have x3 := (blk_cell HS.out.vars.x 3).trans rfl; have x4 := (blk_cell HS.out.vars.x 4).trans rfl; have x5 := (blk_cell HS.out.vars.x 5).trans rfl; have x6 := (blk_cell HS.out.vars.x 6).trans rfl; clear h1 h2 h3 h4 l0w l0 o0 fo)
  refine (key_calls x _).mono ?_
  rintro e w4 ⟨he, hb⟩
  rw [HK1.out, HK2.out] at he
  obtain rfl := he
  have HS4 := Aside0.mk (HS.out.mv hb)
  clear hb x0 x1 x2 x3 x4 x5 x6 HS HM HL
  have x1 := (blk_cell HS4.out.vars.x 1).trans rfl
  have l0 := (blk_cell HS4.out.vars.l 0).trans rfl
  go_wp2_with fail
  refine (must_yes _ _).mono ?_
  rintro e w' ⟨rfl, rfl⟩
  go_wp2_with fail
  refine (Find_calls A c l x.f1 _ (Kd.C_below HR0.out HS4.out.below) (by omega)).mono ?_
  rintro e w5 ⟨he, hb⟩
  rw [HI.out] at he
  obtain rfl := he
  have HS5 := Aside0.mk (HS4.out.mv hb)
  have HS8 := Aside0.mk (((HS5.out.alloc (.cells #[.string ((findV l x.f1).getD ⟨#[]⟩)] 9 (0, 0))).alloc (.cells #[.bool is] 4 (0, 0))).alloc (mapO w.heap.size w5.heap.size (w5.heap.size + 1) 5))
  clear hb x1 l0
  have hmm := run_make69 w.heap.size w5.heap.size (w5.heap.size + 1)
  have i0 := run_ins w.heap.size w5.heap.size (w5.heap.size + 1) 0 _ rfl (by decide) ((w5.alloc (.cells #[.string ((findV l x.f1).getD ⟨#[]⟩)] 9 (0, 0))).alloc (.cells #[.bool is] 4 (0, 0)))
  have i1 := run_ins w.heap.size w5.heap.size (w5.heap.size + 1) 1 _ rfl (by decide) ((w5.alloc (.cells #[.string ((findV l x.f1).getD ⟨#[]⟩)] 9 (0, 0))).alloc (.cells #[.bool is] 4 (0, 0)))
  have i2 := run_ins w.heap.size w5.heap.size (w5.heap.size + 1) 2 _ rfl (by decide) ((w5.alloc (.cells #[.string ((findV l x.f1).getD ⟨#[]⟩)] 9 (0, 0))).alloc (.cells #[.bool is] 4 (0, 0)))
  have i3 := run_ins w.heap.size w5.heap.size (w5.heap.size + 1) 3 _ rfl (by decide) ((w5.alloc (.cells #[.string ((findV l x.f1).getD ⟨#[]⟩)] 9 (0, 0))).alloc (.cells #[.bool is] 4 (0, 0)))
  have i4 := run_ins w.heap.size w5.heap.size (w5.heap.size + 1) 4 _ rfl (by decide) ((w5.alloc (.cells #[.string ((findV l x.f1).getD ⟨#[]⟩)] 9 (0, 0))).alloc (.cells #[.bool is] 4 (0, 0)))
  simp only [Int.cast_ofNat_Int, ptr, Nat.zero_add, Nat.reduceAdd, Int.reduceAdd, World.size_alloc] at i0 i1 i2 i3 i4
  have x0 := (blk_cell HS8.out.vars.x 0).trans rfl
  have lk := run_look (b := w.heap.size) (bv := w5.heap.size) (bi := w5.heap.size + 1) (k := x.f0) 0 _ rfl (by decide) HF.out _ (heap_new ((w5.alloc (.cells #[.string ((findV l x.f1).getD ⟨#[]⟩)] 9 (0, 0))).alloc (.cells #[.bool is] 4 (0, 0))) (mapO w.heap.size w5.heap.size (w5.heap.size + 1) 5))
  simp only [World.size_alloc, ptr] at lk
  have nf := run_neq_func
  have nn := run_neq_nofunc
  go_wp2_with fail
  refine (must_yes _ _).mono ?_
  rintro e w' ⟨rfl, rfl⟩
  go_wp2_with fail
  have hv8 : ((((w5.alloc (.cells #[.string ((findV l x.f1).getD ⟨#[]⟩)] 9 (0, 0))).alloc (.cells #[.bool is] 4 (0, 0))).alloc (mapO w.heap.size w5.heap.size (w5.heap.size + 1) 5))).cell? ⟨w5.heap.size, 0, none⟩ = some (.string ((findV l x.f1).getD ⟨#[]⟩)) := by
    have h := heap_new w5 (.cells #[.string ((findV l x.f1).getD ⟨#[]⟩)] 9 (0, 0))
    exact (blk_cell (blk_below h (below_alloc (below_alloc (Below.refl _ _) (.cells #[.bool is] 4 (0, 0))) (mapO w.heap.size w5.heap.size (w5.heap.size + 1) 5))) 0).trans rfl
  have hi8 : ((((w5.alloc (.cells #[.string ((findV l x.f1).getD ⟨#[]⟩)] 9 (0, 0))).alloc (.cells #[.bool is] 4 (0, 0))).alloc (mapO w.heap.size w5.heap.size (w5.heap.size + 1) 5))).cell? ⟨w5.heap.size + 1, 0, none⟩ = some (.bool is) := by
    have h := heap_new (w5.alloc (.cells #[.string ((findV l x.f1).getD ⟨#[]⟩)] 9 (0, 0))) (.cells #[.bool is] 4 (0, 0))
    rw [World.size_alloc] at h
    exact (blk_cell (blk_below h (below_alloc (Below.refl _ _) (mapO w.heap.size w5.heap.size (w5.heap.size + 1) 5))) 0).trans rfl
  refine (do2_calls _ _ _ is _ _ _ _ _ _ _ _ _ hi8 hv8 HS8.out.reply).mono ?_
  rintro e w9 ⟨rfl, h9⟩
  have HO9 := Aside0.mk ((h9.other _ (by omega)).trans HS8.out.out)
  have HR9 := Aside0.mk h9.here
  have HF9 := Aside0.mk h9
  clear h9 x0 lk i0 i1 i2 i3 i4 hmm hi8 hv8
  have o0 := (blk_cell HO9.out 0).trans rfl
  have fo := blk_frozen HO9.out 0
  have r0 := (blk_cell HR9.out 0).trans rfl
  have f0 := blk_frozen HR9.out 0
  have r1 := (blk_cell HR9.out 1).trans rfl
  have f1 := blk_frozen HR9.out 1
  have r2 := (blk_cell HR9.out 2).trans rfl
  have f2 := blk_frozen HR9.out 2
  have r3 := (blk_cell HR9.out 3).trans rfl
  have f3 := blk_frozen HR9.out 3
  have r4 := (blk_cell HR9.out 4).trans rfl
  have f4 := blk_frozen HR9.out 4
  have r5 := (blk_cell HR9.out 5).trans rfl
  have f5 := blk_frozen HR9.out 5
  have r6 := (blk_cell HR9.out 6).trans rfl
  have f6 := blk_frozen HR9.out 6
  go_wp2
  go_region
  go_wp2
  simp only [bodyPostD]
  exact fin16 (by unfold doS; rw [if_neg (by rw [HK.out]; decide), if_neg (by rw [HK2.out]; simp), if_pos HF.out]; unfold isIn; rw [HI.out]) (HS8.out.below.trans (HF9.out.below (by omega))) HO9.out HR9.out (own_only HS8.out.own HS8.out.reply HF9.out (by decide)) (noCells _ _) (fun k _ => by simp [Value.ownBlock]) (by rfl) (by rfl)
end Go.Proofs.Ytcnmefocbjilbaa.G
namespace Go.Proofs.Ytcnmefocbjilbaa.G
open Go.RowKit Go.Proofs.YtcnmefocbjilbaaW.PrintWords Go.Proofs.YtcnmefocbjilbaaW.PrintLast Go.Proofs.YtcnmefocbjilbaaW.PrintMore
open Go.Proofs.YtcnmefocbjilbaaFlat
set_option maxHeartbeats 1000000
set_option maxRecDepth 20000

theorem okPut {l : List S40} {x : S26} (hr : rightB l = true) (ho : okCall x = true) : putOk l ⟨x.f1, x.f2⟩ = true := by
  unfold okCall at ho
  rw [Bool.and_eq_true, Bool.and_eq_true, decide_eq_true_eq, decide_eq_true_eq] at ho
  unfold putOk
  rw [hr, Bool.true_and]
  unfold fitsB
  rw [Bool.and_eq_true, decide_eq_true_eq, decide_eq_true_eq]
  exact ⟨by have := ho.1.2; show x.f1.size ≤ 513; omega, ho.2⟩
theorem Do_there (A : Option Addr) (c : Nat) (l : List S40) (x : S26) (w : World) (HR : Kd.C k40 w A l.length l) (hc : l.length ≤ c) (hl : l.length < 4398046511102) (hr : rightB l = true) (hk : hasKey x = true) (ho : okCall x = true) (hf : x.f0 = 3) (hi : isIn x.f1 l = true) :
    Calls Try.prog 11 #[.slice A l.length c, .agg (cellsC x)] w (DoPost l x w) := by
  have HR0 := Aside0.mk HR
  have HK := Aside0.mk hr
  have HK1 := Aside0.mk hk
  have HK2 := Aside0.mk ho
  have HF := Aside0.mk hf
  have HI := Aside0.mk (show (findV l x.f1).isSome = true from hi)
  clear HR hr hk ho hf hi
  unfold cellsC
  have hmf : ∀ (fn : Fn) (first cap : Array Value) (w : World), (Instr.makeFunc fn first cap).run Try.prog w = .ok (.func fn first cap) w := fun _ _ _ _ => rfl
  have hms := make40 l.length (by omega)
  go_enter_defers Try.func11, Try.ntmps11
  go_wp2_with fail
  show Calls Try.prog 24 _ (startW A l.length c x w) _
  refine (cells_Right_calls A c l _ (Kd.C_below HR0.out (start_below A l.length c x w))).mono ?_
  rintro e w1 ⟨he, hb⟩
  rw [HK.out] at he
  obtain rfl := he
  have HB := Aside0.mk ((start_below A l.length c x w).trans (hb.mono (by rw [start_size]; omega)))
  have hz : w.heap.size + 4 ≤ w1.heap.size := by have := hb.size; rw [start_size] at this; omega
  have HV := Aside0.mk ((start_vars A l.length c x w).below hb)
  have HO := Aside0.mk (blk_below (start_out A l.length c x w) hb)
  have HRp := Aside0.mk (blk_below (start_reply A l.length c x w) hb)
  have hba := below_alloc (Below.refl w1.heap.size w1) (madeO l.length)
  have l0w := (blk_cell HV.out.l 0).trans rfl
  have l0 := (blk_cell (HV.out.below hba).l 0).trans rfl
  have o0 := (blk_cell (blk_below HO.out hba) 0).trans rfl
  have fo := blk_frozen (blk_below HO.out hba) 0
  have hO2 := Only.set (Only.refl (blk_below HO.out hba)) 0 (.slice (some ⟨w1.heap.size, 0, none⟩) l.length l.length)
  have HM := Aside0.mk (own_only (own_made40 l.length (by omega) w1 w1.heap.size (Nat.le_refl _)) (blk_below HO.out hba) hO2 (by decide))
  have HL := Aside0.mk (Kd.C_below HR0.out ((HB.out.trans (hba.mono HB.out.size)).trans (hO2.below (by omega))))
  have hs2 : w1.heap.size ≤ ((w1.alloc (madeO l.length)).setCell ⟨w.heap.size + 1 + 1, 0, none⟩ (.slice (some ⟨w1.heap.size, 0, none⟩) l.length l.length)).heap.size := by rw [hO2.size]; simp
  clear hb hba hO2
  go_wp2_with ((with_reducible refine gate_builtin (b := .copy) (xs := #[.tmp 23, .tmp 24]) rfl ?_); go_must (refine copyRow (w0 := (w1.alloc (madeO l.length)).setCell ⟨w.heap.size + 1 + 1, 0, none⟩ (.slice (some ⟨w1.heap.size, 0, none⟩) l.length l.length)) w1.heap.size rfl (.tmp 23) (.tmp 24) rfl (.slice (some ⟨w1.heap.size, 0, none⟩) l.length l.length) (List.replicate l.length z40) l A c rfl rfl (by simp) HM.out HL.out (Below.refl _ _) hs2 ?_); intro w3 h1 h2 h3 h4; have HS := Aside0.mk (copied hl HB.out hz HV.out HO.out HRp.out h1 h2); have x0 := (blk_cell HS.out.vars.x 0).trans rfl; have x1 := (blk_cell HS.out.vars.x 1).trans rfl; have x2 := (blk_cell HS.out.vars.x 2).trans rfl; have x3 := (blk_cell HS.out.vars.x 3).trans rfl; have x4 := (blk_cell HS.out.vars.x 4).trans rfl; have x5 := (blk_cell HS.out.vars.x 5).trans rfl; have x6 := (blk_cell HS.out.vars.x 6).trans rfl; clear h1 h2 h3 h4 l0w l0 o0 fo)
  refine (key_calls x _).mono ?_
  rintro e w4 ⟨he, hb⟩
  rw [HK1.out, HK2.out] at he
  obtain rfl := he
  have HS4 := Aside0.mk (HS.out.mv hb)
  clear hb x0 x1 x2 x3 x4 x5 x6 HS HM HL
  have x1 := (blk_cell HS4.out.vars.x 1).trans rfl
  have l0 := (blk_cell HS4.out.vars.l 0).trans rfl
  go_wp2_with fail
  refine (must_yes _ _).mono ?_
  rintro e w' ⟨rfl, rfl⟩
  go_wp2_with fail
  refine (Find_calls A c l x.f1 _ (Kd.C_below HR0.out HS4.out.below) (by omega)).mono ?_
  rintro e w5 ⟨he, hb⟩
  rw [HI.out] at he
  obtain rfl := he
  have HS5 := Aside0.mk (HS4.out.mv hb)
  have HS8 := Aside0.mk (((HS5.out.alloc (.cells #[.string ((findV l x.f1).getD ⟨#[]⟩)] 9 (0, 0))).alloc (.cells #[.bool true] 4 (0, 0))).alloc (mapO w.heap.size w5.heap.size (w5.heap.size + 1) 5))
  clear hb x1 l0
  have hmm := run_make69 w.heap.size w5.heap.size (w5.heap.size + 1)
  have i0 := run_ins w.heap.size w5.heap.size (w5.heap.size + 1) 0 _ rfl (by decide) ((w5.alloc (.cells #[.string ((findV l x.f1).getD ⟨#[]⟩)] 9 (0, 0))).alloc (.cells #[.bool true] 4 (0, 0)))
  have i1 := run_ins w.heap.size w5.heap.size (w5.heap.size + 1) 1 _ rfl (by decide) ((w5.alloc (.cells #[.string ((findV l x.f1).getD ⟨#[]⟩)] 9 (0, 0))).alloc (.cells #[.bool true] 4 (0, 0)))
  have i2 := run_ins w.heap.size w5.heap.size (w5.heap.size + 1) 2 _ rfl (by decide) ((w5.alloc (.cells #[.string ((findV l x.f1).getD ⟨#[]⟩)] 9 (0, 0))).alloc (.cells #[.bool true] 4 (0, 0)))
  have i3 := run_ins w.heap.size w5.heap.size (w5.heap.size + 1) 3 _ rfl (by decide) ((w5.alloc (.cells #[.string ((findV l x.f1).getD ⟨#[]⟩)] 9 (0, 0))).alloc (.cells #[.bool true] 4 (0, 0)))
  have i4 := run_ins w.heap.size w5.heap.size (w5.heap.size + 1) 4 _ rfl (by decide) ((w5.alloc (.cells #[.string ((findV l x.f1).getD ⟨#[]⟩)] 9 (0, 0))).alloc (.cells #[.bool true] 4 (0, 0)))
  simp only [Int.cast_ofNat_Int, ptr, Nat.zero_add, Nat.reduceAdd, Int.reduceAdd, World.size_alloc] at i0 i1 i2 i3 i4
  have x0 := (blk_cell HS8.out.vars.x 0).trans rfl
  have lk := run_look (b := w.heap.size) (bv := w5.heap.size) (bi := w5.heap.size + 1) (k := x.f0) 1 _ rfl (by decide) HF.out _ (heap_new ((w5.alloc (.cells #[.string ((findV l x.f1).getD ⟨#[]⟩)] 9 (0, 0))).alloc (.cells #[.bool true] 4 (0, 0))) (mapO w.heap.size w5.heap.size (w5.heap.size + 1) 5))
  simp only [World.size_alloc, ptr] at lk
  have nf := run_neq_func
  have nn := run_neq_nofunc
  go_wp2_with fail
  refine (must_yes _ _).mono ?_
  rintro e w' ⟨rfl, rfl⟩
  go_wp2_with fail
  have hv8 : ((((w5.alloc (.cells #[.string ((findV l x.f1).getD ⟨#[]⟩)] 9 (0, 0))).alloc (.cells #[.bool true] 4 (0, 0))).alloc (mapO w.heap.size w5.heap.size (w5.heap.size + 1) 5))).cell? ⟨w5.heap.size, 0, none⟩ = some (.string ((findV l x.f1).getD ⟨#[]⟩)) := by
    have h := heap_new w5 (.cells #[.string ((findV l x.f1).getD ⟨#[]⟩)] 9 (0, 0))
    exact (blk_cell (blk_below h (below_alloc (below_alloc (Below.refl _ _) (.cells #[.bool true] 4 (0, 0))) (mapO w.heap.size w5.heap.size (w5.heap.size + 1) 5))) 0).trans rfl
  have hi8 : ((((w5.alloc (.cells #[.string ((findV l x.f1).getD ⟨#[]⟩)] 9 (0, 0))).alloc (.cells #[.bool true] 4 (0, 0))).alloc (mapO w.heap.size w5.heap.size (w5.heap.size + 1) 5))).cell? ⟨w5.heap.size + 1, 0, none⟩ = some (.bool true) := by
    have h := heap_new (w5.alloc (.cells #[.string ((findV l x.f1).getD ⟨#[]⟩)] 9 (0, 0))) (.cells #[.bool true] 4 (0, 0))
    rw [World.size_alloc] at h
    exact (blk_cell (blk_below h (below_alloc (Below.refl _ _) (mapO w.heap.size w5.heap.size (w5.heap.size + 1) 5))) 0).trans rfl
  refine (do3_no _ _ _ _ _ hi8).mono ?_
  rintro e w9 ⟨rfl, rfl⟩
  simp only [bodyPostD]
  exact refused HS8.out (by unfold doS; rw [if_neg (by rw [HK.out]; decide), if_neg (by rw [HK2.out]; simp), if_neg (by rw [HF.out]; decide), if_pos HF.out]; unfold isIn; rw [HI.out]; rfl) (by rfl) (by rfl)
theorem Do_insert (A : Option Addr) (c : Nat) (l : List S40) (x : S26) (w : World) (HR : Kd.C k40 w A l.length l) (hc : l.length ≤ c) (hl : l.length < 4398046511102) (hr : rightB l = true) (hk : hasKey x = true) (ho : okCall x = true) (hf : x.f0 = 3) (hi : isIn x.f1 l = false) :
    Calls Try.prog 11 #[.slice A l.length c, .agg (cellsC x)] w (DoPost l x w) := by
  have HR0 := Aside0.mk HR
  have HK := Aside0.mk hr
  have HK1 := Aside0.mk hk
  have HK2 := Aside0.mk ho
  have HF := Aside0.mk hf
  have HI := Aside0.mk (show (findV l x.f1).isSome = false from hi)
  clear HR hr hk ho hf hi
  unfold cellsC
  have hmf : ∀ (fn : Fn) (first cap : Array Value) (w : World), (Instr.makeFunc fn first cap).run Try.prog w = .ok (.func fn first cap) w := fun _ _ _ _ => rfl
  have hms := make40 l.length (by omega)
  go_enter_defers Try.func11, Try.ntmps11
  go_wp2_with fail
  show Calls Try.prog 24 _ (startW A l.length c x w) _
  refine (cells_Right_calls A c l _ (Kd.C_below HR0.out (start_below A l.length c x w))).mono ?_
  rintro e w1 ⟨he, hb⟩
  rw [HK.out] at he
  obtain rfl := he
  have HB := Aside0.mk ((start_below A l.length c x w).trans (hb.mono (by rw [start_size]; omega)))
  have hz : w.heap.size + 4 ≤ w1.heap.size := by have := hb.size; rw [start_size] at this; omega
  have HV := Aside0.mk ((start_vars A l.length c x w).below hb)
  have HO := Aside0.mk (blk_below (start_out A l.length c x w) hb)
  have HRp := Aside0.mk (blk_below (start_reply A l.length c x w) hb)
  have hba := below_alloc (Below.refl w1.heap.size w1) (madeO l.length)
  have l0w := (blk_cell HV.out.l 0).trans rfl
  have l0 := (blk_cell (HV.out.below hba).l 0).trans rfl
  have o0 := (blk_cell (blk_below HO.out hba) 0).trans rfl
  have fo := blk_frozen (blk_below HO.out hba) 0
  have hO2 := Only.set (Only.refl (blk_below HO.out hba)) 0 (.slice (some ⟨w1.heap.size, 0, none⟩) l.length l.length)
  have HM := Aside0.mk (own_only (own_made40 l.length (by omega) w1 w1.heap.size (Nat.le_refl _)) (blk_below HO.out hba) hO2 (by decide))
  have HL := Aside0.mk (Kd.C_below HR0.out ((HB.out.trans (hba.mono HB.out.size)).trans (hO2.below (by omega))))
  have hs2 : w1.heap.size ≤ ((w1.alloc (madeO l.length)).setCell ⟨w.heap.size + 1 + 1, 0, none⟩ (.slice (some ⟨w1.heap.size, 0, none⟩) l.length l.length)).heap.size := by rw [hO2.size]; simp
  clear hb hba hO2
  go_wp2_with ((with_reducible refine gate_builtin (b := .copy) (xs := #[.tmp 23, .tmp 24]) rfl ?_); go_must (refine copyRow (w0 := (w1.alloc (madeO l.length)).setCell ⟨w.heap.size + 1 + 1, 0, none⟩ (.slice (some ⟨w1.heap.size, 0, none⟩) l.length l.length)) w1.heap.size rfl (.tmp 23) (.tmp 24) rfl (.slice (some ⟨w1.heap.size, 0, none⟩) l.length l.length) (List.replicate l.length z40) l A c rfl rfl (by simp) HM.out HL.out (Below.refl _ _) hs2 ?_); intro w3 h1 h2 h3 h4; have HS := Aside0.mk (copied hl HB.out hz HV.out HO.out HRp.out h1 h2); have x0 := (blk_cell HS.out.vars.x 0).trans rfl; have x1 := (blk_cell HS.out.vars.x 1).trans rfl; have x2 := (blk_cell HS.out.vars.x 2).trans rfl; have x3 := (blk_cell HS.out.vars.x 3).trans rfl; have x4 := (blk_cell HS.out.vars.x 4).trans rfl; have x5 := (blk_cell HS.out.vars.x 5).trans rfl; have x6 := (blk_cell HS.out.vars.x 6).trans rfl; clear h1 h2 h3 h4 l0w l0 o0 fo)
  refine (key_calls x _).mono ?_
  rintro e w4 ⟨he, hb⟩
  rw [HK1.out, HK2.out] at he
  obtain rfl := he
  have HS4 := Aside0.mk (HS.out.mv hb)
  clear hb x0 x1 x2 x3 x4 x5 x6 HS HM HL
  have x1 := (blk_cell HS4.out.vars.x 1).trans rfl
  have l0 := (blk_cell HS4.out.vars.l 0).trans rfl
  go_wp2_with fail
  refine (must_yes _ _).mono ?_
  rintro e w' ⟨rfl, rfl⟩
  go_wp2_with fail
  refine (Find_calls A c l x.f1 _ (Kd.C_below HR0.out HS4.out.below) (by omega)).mono ?_
  rintro e w5 ⟨he, hb⟩
  rw [HI.out] at he
  obtain rfl := he
  have HS5 := Aside0.mk (HS4.out.mv hb)
  have HS8 := Aside0.mk (((HS5.out.alloc (.cells #[.string ((findV l x.f1).getD ⟨#[]⟩)] 9 (0, 0))).alloc (.cells #[.bool false] 4 (0, 0))).alloc (mapO w.heap.size w5.heap.size (w5.heap.size + 1) 5))
  clear hb x1 l0
  have hmm := run_make69 w.heap.size w5.heap.size (w5.heap.size + 1)
  have i0 := run_ins w.heap.size w5.heap.size (w5.heap.size + 1) 0 _ rfl (by decide) ((w5.alloc (.cells #[.string ((findV l x.f1).getD ⟨#[]⟩)] 9 (0, 0))).alloc (.cells #[.bool false] 4 (0, 0)))
  have i1 := run_ins w.heap.size w5.heap.size (w5.heap.size + 1) 1 _ rfl (by decide) ((w5.alloc (.cells #[.string ((findV l x.f1).getD ⟨#[]⟩)] 9 (0, 0))).alloc (.cells #[.bool false] 4 (0, 0)))
  have i2 := run_ins w.heap.size w5.heap.size (w5.heap.size + 1) 2 _ rfl (by decide) ((w5.alloc (.cells #[.string ((findV l x.f1).getD ⟨#[]⟩)] 9 (0, 0))).alloc (.cells #[.bool false] 4 (0, 0)))
  have i3 := run_ins w.heap.size w5.heap.size (w5.heap.size + 1) 3 _ rfl (by decide) ((w5.alloc (.cells #[.string ((findV l x.f1).getD ⟨#[]⟩)] 9 (0, 0))).alloc (.cells #[.bool false] 4 (0, 0)))
  have i4 := run_ins w.heap.size w5.heap.size (w5.heap.size + 1) 4 _ rfl (by decide) ((w5.alloc (.cells #[.string ((findV l x.f1).getD ⟨#[]⟩)] 9 (0, 0))).alloc (.cells #[.bool false] 4 (0, 0)))
  simp only [Int.cast_ofNat_Int, ptr, Nat.zero_add, Nat.reduceAdd, Int.reduceAdd, World.size_alloc] at i0 i1 i2 i3 i4
  have x0 := (blk_cell HS8.out.vars.x 0).trans rfl
  have lk := run_look (b := w.heap.size) (bv := w5.heap.size) (bi := w5.heap.size + 1) (k := x.f0) 1 _ rfl (by decide) HF.out _ (heap_new ((w5.alloc (.cells #[.string ((findV l x.f1).getD ⟨#[]⟩)] 9 (0, 0))).alloc (.cells #[.bool false] 4 (0, 0))) (mapO w.heap.size w5.heap.size (w5.heap.size + 1) 5))
  simp only [World.size_alloc, ptr] at lk
  have nf := run_neq_func
  have nn := run_neq_nofunc
  go_wp2_with fail
  refine (must_yes _ _).mono ?_
  rintro e w' ⟨rfl, rfl⟩
  go_wp2_with fail
  have hv8 : ((((w5.alloc (.cells #[.string ((findV l x.f1).getD ⟨#[]⟩)] 9 (0, 0))).alloc (.cells #[.bool false] 4 (0, 0))).alloc (mapO w.heap.size w5.heap.size (w5.heap.size + 1) 5))).cell? ⟨w5.heap.size, 0, none⟩ = some (.string ((findV l x.f1).getD ⟨#[]⟩)) := by
    have h := heap_new w5 (.cells #[.string ((findV l x.f1).getD ⟨#[]⟩)] 9 (0, 0))
    exact (blk_cell (blk_below h (below_alloc (below_alloc (Below.refl _ _) (.cells #[.bool false] 4 (0, 0))) (mapO w.heap.size w5.heap.size (w5.heap.size + 1) 5))) 0).trans rfl
  have hi8 : ((((w5.alloc (.cells #[.string ((findV l x.f1).getD ⟨#[]⟩)] 9 (0, 0))).alloc (.cells #[.bool false] 4 (0, 0))).alloc (mapO w.heap.size w5.heap.size (w5.heap.size + 1) 5))).cell? ⟨w5.heap.size + 1, 0, none⟩ = some (.bool false) := by
    have h := heap_new (w5.alloc (.cells #[.string ((findV l x.f1).getD ⟨#[]⟩)] 9 (0, 0))) (.cells #[.bool false] 4 (0, 0))
    rw [World.size_alloc] at h
    exact (blk_cell (blk_below h (below_alloc (Below.refl _ _) (mapO w.heap.size w5.heap.size (w5.heap.size + 1) 5))) 0).trans rfl
  refine (do3_yes _ _ _ _ A c l x _ _ hi8 HS8.out.vars HS8.out.out (Kd.C_below HR0.out HS8.out.below) hl hc (okPut HK.out HK2.out)).mono ?_
  rintro e w9 ⟨v9, w8, rfl, hb8, ho8, h9⟩
  obtain ⟨A9, c9, rfl⟩ := Kd.R_slice ho8
  have HO9 := Aside0.mk h9.here
  have HR9 := Aside0.mk ((h9.other _ (by omega)).trans (blk_below HS8.out.reply hb8))
  have HOW := Aside0.mk (Kd.R_lower (own_only ho8 (blk_below HS8.out.out hb8) h9 (by decide)) HS8.out.below.size)
  have HBB := Aside0.mk ((HS8.out.below.trans (hb8.mono HS8.out.below.size)).trans (h9.below (by omega)))
  clear h9 hb8 ho8 x0 lk i0 i1 i2 i3 i4 hmm hi8 hv8
  have o0 := (blk_cell HO9.out 0).trans rfl
  have fo := blk_frozen HO9.out 0
  have r0 := (blk_cell HR9.out 0).trans rfl
  have f0 := blk_frozen HR9.out 0
  have r1 := (blk_cell HR9.out 1).trans rfl
  have f1 := blk_frozen HR9.out 1
  have r2 := (blk_cell HR9.out 2).trans rfl
  have f2 := blk_frozen HR9.out 2
  have r3 := (blk_cell HR9.out 3).trans rfl
  have f3 := blk_frozen HR9.out 3
  have r4 := (blk_cell HR9.out 4).trans rfl
  have f4 := blk_frozen HR9.out 4
  have r5 := (blk_cell HR9.out 5).trans rfl
  have f5 := blk_frozen HR9.out 5
  have r6 := (blk_cell HR9.out 6).trans rfl
  have f6 := blk_frozen HR9.out 6
  go_wp2
  go_region
  go_wp2
  simp only [bodyPostD]
  exact fin16 (by unfold doS; rw [if_neg (by rw [HK.out]; decide), if_neg (by rw [HK2.out]; simp), if_neg (by rw [HF.out]; decide), if_pos HF.out]; unfold isIn; rw [HI.out]; rfl) (HBB.out) HO9.out HR9.out (HOW.out) (noCells _ _) (fun k _ => by simp [Value.ownBlock]) (by rfl) (by rfl)
end Go.Proofs.Ytcnmefocbjilbaa.G
namespace Go.Proofs.Ytcnmefocbjilbaa.G
open Go.RowKit Go.Proofs.YtcnmefocbjilbaaW.PrintWords Go.Proofs.YtcnmefocbjilbaaW.PrintLast Go.Proofs.YtcnmefocbjilbaaW.PrintMore
open Go.Proofs.YtcnmefocbjilbaaFlat
set_option maxHeartbeats 1000000
set_option maxRecDepth 20000

theorem Do_none4 (A : Option Addr) (c : Nat) (l : List S40) (x : S26) (w : World) (HR : Kd.C k40 w A l.length l) (hc : l.length ≤ c) (hl : l.length < 4398046511102) (hr : rightB l = true) (hk : hasKey x = true) (ho : okCall x = true) (hf : x.f0 = 4) (hi : isIn x.f1 l = false) :
    Calls Try.prog 11 #[.slice A l.length c, .agg (cellsC x)] w (DoPost l x w) := by
  have HR0 := Aside0.mk HR
  have HK := Aside0.mk hr
  have HK1 := Aside0.mk hk
  have HK2 := Aside0.mk ho
  have HF := Aside0.mk hf
  have HI := Aside0.mk (show (findV l x.f1).isSome = false from hi)
  clear HR hr hk ho hf hi
  unfold cellsC
  have hmf : ∀ (fn : Fn) (first cap : Array Value) (w : World), (Instr.makeFunc fn first cap).run Try.prog w = .ok (.func fn first cap) w := fun _ _ _ _ => rfl
  have hms := make40 l.length (by omega)
  go_enter_defers Try.func11, Try.ntmps11
  go_wp2_with fail
  show Calls Try.prog 24 _ (startW A l.length c x w) _
  refine (cells_Right_calls A c l _ (Kd.C_below HR0.out (start_below A l.length c x w))).mono ?_
  rintro e w1 ⟨he, hb⟩
  rw [HK.out] at he
  obtain rfl := he
  have HB := Aside0.mk ((start_below A l.length c x w).trans (hb.mono (by rw [start_size]; omega)))
  have hz : w.heap.size + 4 ≤ w1.heap.size := by have := hb.size; rw [start_size] at this; omega
  have HV := Aside0.mk ((start_vars A l.length c x w).below hb)
  have HO := Aside0.mk (blk_below (start_out A l.length c x w) hb)
  have HRp := Aside0.mk (blk_below (start_reply A l.length c x w) hb)
  have hba := below_alloc (Below.refl w1.heap.size w1) (madeO l.length)
  have l0w := (blk_cell HV.out.l 0).trans rfl
  have l0 := (blk_cell (HV.out.below hba).l 0).trans rfl
  have o0 := (blk_cell (blk_below HO.out hba) 0).trans rfl
  have fo := blk_frozen (blk_below HO.out hba) 0
  have hO2 := Only.set (Only.refl (blk_below HO.out hba)) 0 (.slice (some ⟨w1.heap.size, 0, none⟩) l.length l.length)
  have HM := Aside0.mk (own_only (own_made40 l.length (by omega) w1 w1.heap.size (Nat.le_refl _)) (blk_below HO.out hba) hO2 (by decide))
  have HL := Aside0.mk (Kd.C_below HR0.out ((HB.out.trans (hba.mono HB.out.size)).trans (hO2.below (by omega))))
  have hs2 : w1.heap.size ≤ ((w1.alloc (madeO l.length)).setCell ⟨w.heap.size + 1 + 1, 0, none⟩ (.slice (some ⟨w1.heap.size, 0, none⟩) l.length l.length)).heap.size := by rw [hO2.size]; simp
  clear hb hba hO2
  go_wp2_with ((with_reducible refine gate_builtin (b := .copy) (xs := #[.tmp 23, .tmp 24]) rfl ?_); go_must (refine copyRow (w0 := (w1.alloc (madeO l.length)).setCell ⟨w.heap.size + 1 + 1, 0, none⟩ (.slice (some ⟨w1.heap.size, 0, none⟩) l.length l.length)) w1.heap.size rfl (.tmp 23) (.tmp 24) rfl (.slice (some ⟨w1.heap.size, 0, none⟩) l.length l.length) (List.replicate l.length z40) l A c rfl rfl (by simp) HM.out HL.out (Below.refl _ _) hs2 ?_); intro w3 h1 h2 h3 h4; have HS := Aside0.mk (copied hl HB.out hz HV.out HO.out HRp.out h1 h2); have x0 := (blk_cell HS.out.vars.x 0).trans rfl; have x1 := (blk_cell HS.out.vars.x 1).trans rfl; have x2 := (blk_cell HS.out.vars.x 2).trans rfl; have x3 := (blk_cell HS.out.vars.x 3).trans rfl; have x4 := (blk_cell HS.out.vars.x 4).trans rfl; have x5 := (blk_cell HS.out.vars.x 5).trans rfl; have x6 := (blk_cell HS.out.vars.x 6).trans rfl; clear h1 h2 h3 h4 l0w l0 o0 fo)
  refine (key_calls x _).mono ?_
  rintro e w4 ⟨he, hb⟩
  rw [HK1.out, HK2.out] at he
  obtain rfl := he
  have HS4 := Aside0.mk (HS.out.mv hb)
  clear hb x0 x1 x2 x3 x4 x5 x6 HS HM HL
  have x1 := (blk_cell HS4.out.vars.x 1).trans rfl
  have l0 := (blk_cell HS4.out.vars.l 0).trans rfl
  go_wp2_with fail
  refine (must_yes _ _).mono ?_
  rintro e w' ⟨rfl, rfl⟩
  go_wp2_with fail
  refine (Find_calls A c l x.f1 _ (Kd.C_below HR0.out HS4.out.below) (by omega)).mono ?_
  rintro e w5 ⟨he, hb⟩
  rw [HI.out] at he
  obtain rfl := he
  have HS5 := Aside0.mk (HS4.out.mv hb)
  have HS8 := Aside0.mk (((HS5.out.alloc (.cells #[.string ((findV l x.f1).getD ⟨#[]⟩)] 9 (0, 0))).alloc (.cells #[.bool false] 4 (0, 0))).alloc (mapO w.heap.size w5.heap.size (w5.heap.size + 1) 5))
  clear hb x1 l0
  have hmm := run_make69 w.heap.size w5.heap.size (w5.heap.size + 1)
  have i0 := run_ins w.heap.size w5.heap.size (w5.heap.size + 1) 0 _ rfl (by decide) ((w5.alloc (.cells #[.string ((findV l x.f1).getD ⟨#[]⟩)] 9 (0, 0))).alloc (.cells #[.bool false] 4 (0, 0)))
  have i1 := run_ins w.heap.size w5.heap.size (w5.heap.size + 1) 1 _ rfl (by decide) ((w5.alloc (.cells #[.string ((findV l x.f1).getD ⟨#[]⟩)] 9 (0, 0))).alloc (.cells #[.bool false] 4 (0, 0)))
  have i2 := run_ins w.heap.size w5.heap.size (w5.heap.size + 1) 2 _ rfl (by decide) ((w5.alloc (.cells #[.string ((findV l x.f1).getD ⟨#[]⟩)] 9 (0, 0))).alloc (.cells #[.bool false] 4 (0, 0)))
  have i3 := run_ins w.heap.size w5.heap.size (w5.heap.size + 1) 3 _ rfl (by decide) ((w5.alloc (.cells #[.string ((findV l x.f1).getD ⟨#[]⟩)] 9 (0, 0))).alloc (.cells #[.bool false] 4 (0, 0)))
  have i4 := run_ins w.heap.size w5.heap.size (w5.heap.size + 1) 4 _ rfl (by decide) ((w5.alloc (.cells #[.string ((findV l x.f1).getD ⟨#[]⟩)] 9 (0, 0))).alloc (.cells #[.bool false] 4 (0, 0)))
  simp only [Int.cast_ofNat_Int, ptr, Nat.zero_add, Nat.reduceAdd, Int.reduceAdd, World.size_alloc] at i0 i1 i2 i3 i4
  have x0 := (blk_cell HS8.out.vars.x 0).trans rfl
  have lk := run_look (b := w.heap.size) (bv := w5.heap.size) (bi := w5.heap.size + 1) (k := x.f0) 2 _ rfl (by decide) HF.out _ (heap_new ((w5.alloc (.cells #[.string ((findV l x.f1).getD ⟨#[]⟩)] 9 (0, 0))).alloc (.cells #[.bool false] 4 (0, 0))) (mapO w.heap.size w5.heap.size (w5.heap.size + 1) 5))
  simp only [World.size_alloc, ptr] at lk
  have nf := run_neq_func
  have nn := run_neq_nofunc
  go_wp2_with fail
  refine (must_yes _ _).mono ?_
  rintro e w' ⟨rfl, rfl⟩
  go_wp2_with fail
  have hv8 : ((((w5.alloc (.cells #[.string ((findV l x.f1).getD ⟨#[]⟩)] 9 (0, 0))).alloc (.cells #[.bool false] 4 (0, 0))).alloc (mapO w.heap.size w5.heap.size (w5.heap.size + 1) 5))).cell? ⟨w5.heap.size, 0, none⟩ = some (.string ((findV l x.f1).getD ⟨#[]⟩)) := by
    have h := heap_new w5 (.cells #[.string ((findV l x.f1).getD ⟨#[]⟩)] 9 (0, 0))
    exact (blk_cell (blk_below h (below_alloc (below_alloc (Below.refl _ _) (.cells #[.bool false] 4 (0, 0))) (mapO w.heap.size w5.heap.size (w5.heap.size + 1) 5))) 0).trans rfl
  have hi8 : ((((w5.alloc (.cells #[.string ((findV l x.f1).getD ⟨#[]⟩)] 9 (0, 0))).alloc (.cells #[.bool false] 4 (0, 0))).alloc (mapO w.heap.size w5.heap.size (w5.heap.size + 1) 5))).cell? ⟨w5.heap.size + 1, 0, none⟩ = some (.bool false) := by
    have h := heap_new (w5.alloc (.cells #[.string ((findV l x.f1).getD ⟨#[]⟩)] 9 (0, 0))) (.cells #[.bool false] 4 (0, 0))
    rw [World.size_alloc] at h
    exact (blk_cell (blk_below h (below_alloc (Below.refl _ _) (mapO w.heap.size w5.heap.size (w5.heap.size + 1) 5))) 0).trans rfl
  refine (do4_no _ _ _ _ _ hi8).mono ?_
  rintro e w9 ⟨rfl, rfl⟩
  simp only [bodyPostD]
  exact refused HS8.out (by unfold doS; rw [if_neg (by rw [HK.out]; decide), if_neg (by rw [HK2.out]; simp), if_neg (by rw [HF.out]; decide), if_neg (by rw [HF.out]; decide), if_pos HF.out]; unfold isIn; rw [HI.out]; rfl) (by rfl) (by rfl)
theorem Do_update (A : Option Addr) (c : Nat) (l : List S40) (x : S26) (w : World) (HR : Kd.C k40 w A l.length l) (hc : l.length ≤ c) (hl : l.length < 4398046511102) (hr : rightB l = true) (hk : hasKey x = true) (ho : okCall x = true) (hf : x.f0 = 4) (hi : isIn x.f1 l = true) :
    Calls Try.prog 11 #[.slice A l.length c, .agg (cellsC x)] w (DoPost l x w) := by
  have HR0 := Aside0.mk HR
  have HK := Aside0.mk hr
  have HK1 := Aside0.mk hk
  have HK2 := Aside0.mk ho
  have HF := Aside0.mk hf
  have HI := Aside0.mk (show (findV l x.f1).isSome = true from hi)
  clear HR hr hk ho hf hi
  unfold cellsC
  have hmf : ∀ (fn : Fn) (first cap : Array Value) (w : World), (Instr.makeFunc fn first cap).run Try.prog w = .ok (.func fn first cap) w := fun _ _ _ _ => rfl
  have hms := make40 l.length (by omega)
  go_enter_defers Try.func11, Try.ntmps11
  go_wp2_with fail
  show Calls Try.prog 24 _ (startW A l.length c x w) _
  refine (cells_Right_calls A c l _ (Kd.C_below HR0.out (start_below A l.length c x w))).mono ?_
  rintro e w1 ⟨he, hb⟩
  rw [HK.out] at he
  obtain rfl := he
  have HB := Aside0.mk ((start_below A l.length c x w).trans (hb.mono (by rw [start_size]; omega)))
  have hz : w.heap.size + 4 ≤ w1.heap.size := by have := hb.size; rw [start_size] at this; omega
  have HV := Aside0.mk ((start_vars A l.length c x w).below hb)
  have HO := Aside0.mk (blk_below (start_out A l.length c x w) hb)
  have HRp := Aside0.mk (blk_below (start_reply A l.length c x w) hb)
  have hba := below_alloc (Below.refl w1.heap.size w1) (madeO l.length)
  have l0w := (blk_cell HV.out.l 0).trans rfl
  have l0 := (blk_cell (HV.out.below hba).l 0).trans rfl
  have o0 := (blk_cell (blk_below HO.out hba) 0).trans rfl
  have fo := blk_frozen (blk_below HO.out hba) 0
  have hO2 := Only.set (Only.refl (blk_below HO.out hba)) 0 (.slice (some ⟨w1.heap.size, 0, none⟩) l.length l.length)
  have HM := Aside0.mk (own_only (own_made40 l.length (by omega) w1 w1.heap.size (Nat.le_refl _)) (blk_below HO.out hba) hO2 (by decide))
  have HL := Aside0.mk (Kd.C_below HR0.out ((HB.out.trans (hba.mono HB.out.size)).trans (hO2.below (by omega))))
  have hs2 : w1.heap.size ≤ ((w1.alloc (madeO l.length)).setCell ⟨w.heap.size + 1 + 1, 0, none⟩ (.slice (some ⟨w1.heap.size, 0, none⟩) l.length l.length)).heap.size := by rw [hO2.size]; simp
  clear hb hba hO2
  go_wp2_with ((with_reducible refine gate_builtin (b := .copy) (xs := #[.tmp 23, .tmp 24]) rfl ?_); go_must (refine copyRow (w0 := (w1.alloc (madeO l.length)).setCell ⟨w.heap.size + 1 + 1, 0, none⟩ (.slice (some ⟨w1.heap.size, 0, none⟩) l.length l.length)) w1.heap.size rfl (.tmp 23) (.tmp 24) rfl (.slice (some ⟨w1.heap.size, 0, none⟩) l.length l.length) (List.replicate l.length z40) l A c rfl rfl (by simp) HM.out HL.out (Below.refl _ _) hs2 ?_); intro w3 h1 h2 h3 h4; have HS := Aside0.mk (copied hl HB.out hz HV.out HO.out HRp.out h1 h2); have x0 := (blk_cell HS.out.vars.x 0).trans rfl; have x1 := (blk_cell HS.out.vars.x 1).trans rfl; have x2 := (blk_cell HS.out.vars.x 2).trans rfl; have x3 := (blk_cell HS.out.vars.x 3).trans rfl; have x4 := (blk_cell HS.out.vars.x 4).trans rfl; have x5 := (blk_cell HS.out.vars.x 5).trans rfl; have x6 := (blk_cell HS.out.vars.x 6).trans rfl; clear h1 h2 h3 h4 l0w l0 o0 fo)
  refine (key_calls x _).mono ?_
  rintro e w4 ⟨he, hb⟩
  rw [HK1.out, HK2.out] at he
  obtain rfl := he
  have HS4 := Aside0.mk (HS.out.mv hb)
  clear hb x0 x1 x2 x3 x4 x5 x6 HS HM HL
  have x1 := (blk_cell HS4.out.vars.x 1).trans rfl
  have l0 := (blk_cell HS4.out.vars.l 0).trans rfl
  go_wp2_with fail
  refine (must_yes _ _).mono ?_
  rintro e w' ⟨rfl, rfl⟩
  go_wp2_with fail
  refine (Find_calls A c l x.f1 _ (Kd.C_below HR0.out HS4.out.below) (by omega)).mono ?_
  rintro e w5 ⟨he, hb⟩
  rw [HI.out] at he
  obtain rfl := he
  have HS5 := Aside0.mk (HS4.out.mv hb)
  have HS8 := Aside0.mk (((HS5.out.alloc (.cells #[.string ((findV l x.f1).getD ⟨#[]⟩)] 9 (0, 0))).alloc (.cells #[.bool true] 4 (0, 0))).alloc (mapO w.heap.size w5.heap.size (w5.heap.size + 1) 5))
  clear hb x1 l0
  have hmm := run_make69 w.heap.size w5.heap.size (w5.heap.size + 1)
  have i0 := run_ins w.heap.size w5.heap.size (w5.heap.size + 1) 0 _ rfl (by decide) ((w5.alloc (.cells #[.string ((findV l x.f1).getD ⟨#[]⟩)] 9 (0, 0))).alloc (.cells #[.bool true] 4 (0, 0)))
  have i1 := run_ins w.heap.size w5.heap.size (w5.heap.size + 1) 1 _ rfl (by decide) ((w5.alloc (.cells #[.string ((findV l x.f1).getD ⟨#[]⟩)] 9 (0, 0))).alloc (.cells #[.bool true] 4 (0, 0)))
  have i2 := run_ins w.heap.size w5.heap.size (w5.heap.size + 1) 2 _ rfl (by decide) ((w5.alloc (.cells #[.string ((findV l x.f1).getD ⟨#[]⟩)] 9 (0, 0))).alloc (.cells #[.bool true] 4 (0, 0)))
  have i3 := run_ins w.heap.size w5.heap.size (w5.heap.size + 1) 3 _ rfl (by decide) ((w5.alloc (.cells #[.string ((findV l x.f1).getD ⟨#[]⟩)] 9 (0, 0))).alloc (.cells #[.bool true] 4 (0, 0)))
  have i4 := run_ins w.heap.size w5.heap.size (w5.heap.size + 1) 4 _ rfl (by decide) ((w5.alloc (.cells #[.string ((findV l x.f1).getD ⟨#[]⟩)] 9 (0, 0))).alloc (.cells #[.bool true] 4 (0, 0)))
  simp only [Int.cast_ofNat_Int, ptr, Nat.zero_add, Nat.reduceAdd, Int.reduceAdd, World.size_alloc] at i0 i1 i2 i3 i4
  have x0 := (blk_cell HS8.out.vars.x 0).trans rfl
  have lk := run_look (b := w.heap.size) (bv := w5.heap.size) (bi := w5.heap.size + 1) (k := x.f0) 2 _ rfl (by decide) HF.out _ (heap_new ((w5.alloc (.cells #[.string ((findV l x.f1).getD ⟨#[]⟩)] 9 (0, 0))).alloc (.cells #[.bool true] 4 (0, 0))) (mapO w.heap.size w5.heap.size (w5.heap.size + 1) 5))
  simp only [World.size_alloc, ptr] at lk
  have nf := run_neq_func
  have nn := run_neq_nofunc
  go_wp2_with fail
  refine (must_yes _ _).mono ?_
  rintro e w' ⟨rfl, rfl⟩
  go_wp2_with fail
  have hv8 : ((((w5.alloc (.cells #[.string ((findV l x.f1).getD ⟨#[]⟩)] 9 (0, 0))).alloc (.cells #[.bool true] 4 (0, 0))).alloc (mapO w.heap.size w5.heap.size (w5.heap.size + 1) 5))).cell? ⟨w5.heap.size, 0, none⟩ = some (.string ((findV l x.f1).getD ⟨#[]⟩)) := by
    have h := heap_new w5 (.cells #[.string ((findV l x.f1).getD ⟨#[]⟩)] 9 (0, 0))
    exact (blk_cell (blk_below h (below_alloc (below_alloc (Below.refl _ _) (.cells #[.bool true] 4 (0, 0))) (mapO w.heap.size w5.heap.size (w5.heap.size + 1) 5))) 0).trans rfl
  have hi8 : ((((w5.alloc (.cells #[.string ((findV l x.f1).getD ⟨#[]⟩)] 9 (0, 0))).alloc (.cells #[.bool true] 4 (0, 0))).alloc (mapO w.heap.size w5.heap.size (w5.heap.size + 1) 5))).cell? ⟨w5.heap.size + 1, 0, none⟩ = some (.bool true) := by
    have h := heap_new (w5.alloc (.cells #[.string ((findV l x.f1).getD ⟨#[]⟩)] 9 (0, 0))) (.cells #[.bool true] 4 (0, 0))
    rw [World.size_alloc] at h
    exact (blk_cell (blk_below h (below_alloc (Below.refl _ _) (mapO w.heap.size w5.heap.size (w5.heap.size + 1) 5))) 0).trans rfl
  refine (do4_yes _ _ _ _ A c l x _ _ hi8 HS8.out.vars HS8.out.out (Kd.C_below HR0.out HS8.out.below) hl hc (okPut HK.out HK2.out)).mono ?_
  rintro e w9 ⟨v9, w8, rfl, hb8, ho8, h9⟩
  obtain ⟨A9, c9, rfl⟩ := Kd.R_slice ho8
  have HO9 := Aside0.mk h9.here
  have HR9 := Aside0.mk ((h9.other _ (by omega)).trans (blk_below HS8.out.reply hb8))
  have HOW := Aside0.mk (Kd.R_lower (own_only ho8 (blk_below HS8.out.out hb8) h9 (by decide)) HS8.out.below.size)
  have HBB := Aside0.mk ((HS8.out.below.trans (hb8.mono HS8.out.below.size)).trans (h9.below (by omega)))
  clear h9 hb8 ho8 x0 lk i0 i1 i2 i3 i4 hmm hi8 hv8
  have o0 := (blk_cell HO9.out 0).trans rfl
  have fo := blk_frozen HO9.out 0
  have r0 := (blk_cell HR9.out 0).trans rfl
  have f0 := blk_frozen HR9.out 0
  have r1 := (blk_cell HR9.out 1).trans rfl
  have f1 := blk_frozen HR9.out 1
  have r2 := (blk_cell HR9.out 2).trans rfl
  have f2 := blk_frozen HR9.out 2
  have r3 := (blk_cell HR9.out 3).trans rfl
  have f3 := blk_frozen HR9.out 3
  have r4 := (blk_cell HR9.out 4).trans rfl
  have f4 := blk_frozen HR9.out 4
  have r5 := (blk_cell HR9.out 5).trans rfl
  have f5 := blk_frozen HR9.out 5
  have r6 := (blk_cell HR9.out 6).trans rfl
  have f6 := blk_frozen HR9.out 6
  go_wp2
  go_region
  go_wp2
  simp only [bodyPostD]
  exact fin16 (by unfold doS; rw [if_neg (by rw [HK.out]; decide), if_neg (by rw [HK2.out]; simp), if_neg (by rw [HF.out]; decide), if_neg (by rw [HF.out]; decide), if_pos HF.out]; unfold isIn; rw [HI.out]; rfl) (HBB.out) HO9.out HR9.out (HOW.out) (noCells _ _) (fun k _ => by simp [Value.ownBlock]) (by rfl) (by rfl)
end Go.Proofs.Ytcnmefocbjilbaa.G
namespace Go.Proofs.Ytcnmefocbjilbaa.G
open Go.RowKit Go.Proofs.YtcnmefocbjilbaaW.PrintWords Go.Proofs.YtcnmefocbjilbaaW.PrintLast Go.Proofs.YtcnmefocbjilbaaW.PrintMore
open Go.Proofs.YtcnmefocbjilbaaFlat
set_option maxHeartbeats 1000000
set_option maxRecDepth 20000

theorem Do_none5 (A : Option Addr) (c : Nat) (l : List S40) (x : S26) (w : World) (HR : Kd.C k40 w A l.length l) (hc : l.length ≤ c) (hl : l.length < 4398046511102) (hr : rightB l = true) (hk : hasKey x = true) (ho : okCall x = true) (hf : x.f0 = 5) (hi : isIn x.f1 l = false) :
    Calls Try.prog 11 #[.slice A l.length c, .agg (cellsC x)] w (DoPost l x w) := by
  have HR0 := Aside0.mk HR
  have HK := Aside0.mk hr
  have HK1 := Aside0.mk hk
  have HK2 := Aside0.mk ho
  have HF := Aside0.mk hf
  have HI := Aside0.mk (show (findV l x.f1).isSome = false from hi)
  clear HR hr hk ho hf hi
  unfold cellsC
  have hmf : ∀ (fn : Fn) (first cap : Array Value) (w : World), (Instr.makeFunc fn first cap).run Try.prog w = .ok (.func fn first cap) w := fun _ _ _ _ => rfl
  have hms := make40 l.length (by omega)
  go_enter_defers Try.func11, Try.ntmps11
  go_wp2_with fail
  show Calls Try.prog 24 _ (startW A l.length c x w) _
  refine (cells_Right_calls A c l _ (Kd.C_below HR0.out (start_below A l.length c x w))).mono ?_
  rintro e w1 ⟨he, hb⟩
  rw [HK.out] at he
  obtain rfl := he
  have HB := Aside0.mk ((start_below A l.length c x w).trans (hb.mono (by rw [start_size]; omega)))
  have hz : w.heap.size + 4 ≤ w1.heap.size := by have := hb.size; rw [start_size] at this; omega
  have HV := Aside0.mk ((start_vars A l.length c x w).below hb)
  have HO := Aside0.mk (blk_below (start_out A l.length c x w) hb)
  have HRp := Aside0.mk (blk_below (start_reply A l.length c x w) hb)
  have hba := below_alloc (Below.refl w1.heap.size w1) (madeO l.length)
  have l0w := (blk_cell HV.out.l 0).trans rfl
  have l0 := (blk_cell (HV.out.below hba).l 0).trans rfl
  have o0 := (blk_cell (blk_below HO.out hba) 0).trans rfl
  have fo := blk_frozen (blk_below HO.out hba) 0
  have hO2 := Only.set (Only.refl (blk_below HO.out hba)) 0 (.slice (some ⟨w1.heap.size, 0, none⟩) l.length l.length)
  have HM := Aside0.mk (own_only (own_made40 l.length (by omega) w1 w1.heap.size (Nat.le_refl _)) (blk_below HO.out hba) hO2 (by decide))
  have HL := Aside0.mk (Kd.C_below HR0.out ((HB.out.trans (hba.mono HB.out.size)).trans (hO2.below (by omega))))
  have hs2 : w1.heap.size ≤ ((w1.alloc (madeO l.length)).setCell ⟨w.heap.size + 1 + 1, 0, none⟩ (.slice (some ⟨w1.heap.size, 0, none⟩) l.length l.length)).heap.size := by rw [hO2.size]; simp
  clear hb hba hO2
  go_wp2_with ((with_reducible refine gate_builtin (b := .copy) (xs := #[.tmp 23, .tmp 24]) rfl ?_); go_must (refine copyRow (w0 := (w1.alloc (madeO l.length)).setCell ⟨w.heap.size + 1 + 1, 0, none⟩ (.slice (some ⟨w1.heap.size, 0, none⟩) l.length l.length)) w1.heap.size rfl (.tmp 23) (.tmp 24) rfl (.slice (some ⟨w1.heap.size, 0, none⟩) l.length l.length) (List.replicate l.length z40) l A c rfl rfl (by simp) HM.out HL.out (Below.refl _ _) hs2 ?_); intro w3 h1 h2 h3 h4; have HS := Aside0.mk (copied hl HB.out hz HV.out HO.out HRp.out h1 h2); have x0 := (blk_cell HS.out.vars.x 0).trans rfl; have x1 := (blk_cell HS.out.vars.x 1).trans rfl; have x2 := (blk_cell HS.out.vars.x 2).trans rfl; have x3 := (blk_cell HS.out.vars.x 3).trans rfl; have x4 := (blk_cell HS.out.vars.x 4).trans rfl; have x5 := (blk_cell HS.out.vars.x 5).trans rfl; have x6 := (blk_cell HS.out.vars.x 6).trans rfl; clear h1 h2 h3 h4 l0w l0 o0 fo)
  refine (key_calls x _).mono ?_
  rintro e w4 ⟨he, hb⟩
  rw [HK1.out, HK2.out] at he
  obtain rfl := he
  have HS4 := Aside0.mk (HS.out.mv hb)
  clear hb x0 x1 x2 x3 x4 x5 x6 HS HM HL
  have x1 := (blk_cell HS4.out.vars.x 1).trans rfl
  have l0 := (blk_cell HS4.out.vars.l 0).trans rfl
  go_wp2_with fail
  refine (must_yes _ _).mono ?_
  rintro e w' ⟨rfl, rfl⟩
  go_wp2_with fail
  refine (Find_calls A c l x.f1 _ (Kd.C_below HR0.out HS4.out.below) (by omega)).mono ?_
  rintro e w5 ⟨he, hb⟩
  rw [HI.out] at he
  obtain rfl := he
  have HS5 := Aside0.mk (HS4.out.mv hb)
  have HS8 := Aside0.mk (((HS5.out.alloc (.cells #[.string ((findV l x.f1).getD ⟨#[]⟩)] 9 (0, 0))).alloc (.cells #[.bool false] 4 (0, 0))).alloc (mapO w.heap.size w5.heap.size (w5.heap.size + 1) 5))
  clear hb x1 l0
  have hmm := run_make69 w.heap.size w5.heap.size (w5.heap.size + 1)
  have i0 := run_ins w.heap.size w5.heap.size (w5.heap.size + 1) 0 _ rfl (by decide) ((w5.alloc (.cells #[.string ((findV l x.f1).getD ⟨#[]⟩)] 9 (0, 0))).alloc (.cells #[.bool false] 4 (0, 0)))
  have i1 := run_ins w.heap.size w5.heap.size (w5.heap.size + 1) 1 _ rfl (by decide) ((w5.alloc (.cells #[.string ((findV l x.f1).getD ⟨#[]⟩)] 9 (0, 0))).alloc (.cells #[.bool false] 4 (0, 0)))
  have i2 := run_ins w.heap.size w5.heap.size (w5.heap.size + 1) 2 _ rfl (by decide) ((w5.alloc (.cells #[.string ((findV l x.f1).getD ⟨#[]⟩)] 9 (0, 0))).alloc (.cells #[.bool false] 4 (0, 0)))
  have i3 := run_ins w.heap.size w5.heap.size (w5.heap.size + 1) 3 _ rfl (by decide) ((w5.alloc (.cells #[.string ((findV l x.f1).getD ⟨#[]⟩)] 9 (0, 0))).alloc (.cells #[.bool false] 4 (0, 0)))
  have i4 := run_ins w.heap.size w5.heap.size (w5.heap.size + 1) 4 _ rfl (by decide) ((w5.alloc (.cells #[.string ((findV l x.f1).getD ⟨#[]⟩)] 9 (0, 0))).alloc (.cells #[.bool false] 4 (0, 0)))
  simp only [Int.cast_ofNat_Int, ptr, Nat.zero_add, Nat.reduceAdd, Int.reduceAdd, World.size_alloc] at i0 i1 i2 i3 i4
  have x0 := (blk_cell HS8.out.vars.x 0).trans rfl
  have lk := run_look (b := w.heap.size) (bv := w5.heap.size) (bi := w5.heap.size + 1) (k := x.f0) 3 _ rfl (by decide) HF.out _ (heap_new ((w5.alloc (.cells #[.string ((findV l x.f1).getD ⟨#[]⟩)] 9 (0, 0))).alloc (.cells #[.bool false] 4 (0, 0))) (mapO w.heap.size w5.heap.size (w5.heap.size + 1) 5))
  simp only [World.size_alloc, ptr] at lk
  have nf := run_neq_func
  have nn := run_neq_nofunc
  go_wp2_with fail
  refine (must_yes _ _).mono ?_
  rintro e w' ⟨rfl, rfl⟩
  go_wp2_with fail
  have hv8 : ((((w5.alloc (.cells #[.string ((findV l x.f1).getD ⟨#[]⟩)] 9 (0, 0))).alloc (.cells #[.bool false] 4 (0, 0))).alloc (mapO w.heap.size w5.heap.size (w5.heap.size + 1) 5))).cell? ⟨w5.heap.size, 0, none⟩ = some (.string ((findV l x.f1).getD ⟨#[]⟩)) := by
    have h := heap_new w5 (.cells #[.string ((findV l x.f1).getD ⟨#[]⟩)] 9 (0, 0))
    exact (blk_cell (blk_below h (below_alloc (below_alloc (Below.refl _ _) (.cells #[.bool false] 4 (0, 0))) (mapO w.heap.size w5.heap.size (w5.heap.size + 1) 5))) 0).trans rfl
  have hi8 : ((((w5.alloc (.cells #[.string ((findV l x.f1).getD ⟨#[]⟩)] 9 (0, 0))).alloc (.cells #[.bool false] 4 (0, 0))).alloc (mapO w.heap.size w5.heap.size (w5.heap.size + 1) 5))).cell? ⟨w5.heap.size + 1, 0, none⟩ = some (.bool false) := by
    have h := heap_new (w5.alloc (.cells #[.string ((findV l x.f1).getD ⟨#[]⟩)] 9 (0, 0))) (.cells #[.bool false] 4 (0, 0))
    rw [World.size_alloc] at h
    exact (blk_cell (blk_below h (below_alloc (Below.refl _ _) (mapO w.heap.size w5.heap.size (w5.heap.size + 1) 5))) 0).trans rfl
  refine (do5_no _ _ _ _ _ hi8).mono ?_
  rintro e w9 ⟨rfl, rfl⟩
  simp only [bodyPostD]
  exact refused HS8.out (by unfold doS; rw [if_neg (by rw [HK.out]; decide), if_neg (by rw [HK2.out]; simp), if_neg (by rw [HF.out]; decide), if_neg (by rw [HF.out]; decide), if_neg (by rw [HF.out]; decide), if_pos HF.out]; unfold isIn; rw [HI.out]; rfl) (by rfl) (by rfl)
theorem Do_delete (A : Option Addr) (c : Nat) (l : List S40) (x : S26) (w : World) (HR : Kd.C k40 w A l.length l) (hc : l.length ≤ c) (hl : l.length < 4398046511102) (hr : rightB l = true) (hk : hasKey x = true) (ho : okCall x = true) (hf : x.f0 = 5) (hi : isIn x.f1 l = true) :
    Calls Try.prog 11 #[.slice A l.length c, .agg (cellsC x)] w (DoPost l x w) := by
  have HR0 := Aside0.mk HR
  have HK := Aside0.mk hr
  have HK1 := Aside0.mk hk
  have HK2 := Aside0.mk ho
  have HF := Aside0.mk hf
  have HI := Aside0.mk (show (findV l x.f1).isSome = true from hi)
  clear HR hr hk ho hf hi
  unfold cellsC
  have hmf : ∀ (fn : Fn) (first cap : Array Value) (w : World), (Instr.makeFunc fn first cap).run Try.prog w = .ok (.func fn first cap) w := fun _ _ _ _ => rfl
  have hms := make40 l.length (by omega)
  go_enter_defers Try.func11, Try.ntmps11
  go_wp2_with fail
  show Calls Try.prog 24 _ (startW A l.length c x w) _
  refine (cells_Right_calls A c l _ (Kd.C_below HR0.out (start_below A l.length c x w))).mono ?_
  rintro e w1 ⟨he, hb⟩
  rw [HK.out] at he
  obtain rfl := he
  have HB := Aside0.mk ((start_below A l.length c x w).trans (hb.mono (by rw [start_size]; omega)))
  have hz : w.heap.size + 4 ≤ w1.heap.size := by have := hb.size; rw [start_size] at this; omega
  have HV := Aside0.mk ((start_vars A l.length c x w).below hb)
  have HO := Aside0.mk (blk_below (start_out A l.length c x w) hb)
  have HRp := Aside0.mk (blk_below (start_reply A l.length c x w) hb)
  have hba := below_alloc (Below.refl w1.heap.size w1) (madeO l.length)
  have l0w := (blk_cell HV.out.l 0).trans rfl
  have l0 := (blk_cell (HV.out.below hba).l 0).trans rfl
  have o0 := (blk_cell (blk_below HO.out hba) 0).trans rfl
  have fo := blk_frozen (blk_below HO.out hba) 0
  have hO2 := Only.set (Only.refl (blk_below HO.out hba)) 0 (.slice (some ⟨w1.heap.size, 0, none⟩) l.length l.length)
  have HM := Aside0.mk (own_only (own_made40 l.length (by omega) w1 w1.heap.size (Nat.le_refl _)) (blk_below HO.out hba) hO2 (by decide))
  have HL := Aside0.mk (Kd.C_below HR0.out ((HB.out.trans (hba.mono HB.out.size)).trans (hO2.below (by omega))))
  have hs2 : w1.heap.size ≤ ((w1.alloc (madeO l.length)).setCell ⟨w.heap.size + 1 + 1, 0, none⟩ (.slice (some ⟨w1.heap.size, 0, none⟩) l.length l.length)).heap.size := by rw [hO2.size]; simp
  clear hb hba hO2
  go_wp2_with ((with_reducible refine gate_builtin (b := .copy) (xs := #[.tmp 23, .tmp 24]) rfl ?_); go_must (refine copyRow (w0 := (w1.alloc (madeO l.length)).setCell ⟨w.heap.size + 1 + 1, 0, none⟩ (.slice (some ⟨w1.heap.size, 0, none⟩) l.length l.length)) w1.heap.size rfl (.tmp 23) (.tmp 24) rfl (.slice (some ⟨w1.heap.size, 0, none⟩) l.length l.length) (List.replicate l.length z40) l A c rfl rfl (by simp) HM.out HL.out (Below.refl _ _) hs2 ?_); intro w3 h1 h2 h3 h4; have HS := Aside0.mk (copied hl HB.out hz HV.out HO.out HRp.out h1 h2); have x0 := (blk_cell HS.out.vars.x 0).trans rfl; have x1 := (blk_cell HS.out.vars.x 1).trans rfl; have x2 := (blk_cell HS.out.vars.x 2).trans rfl; have x3 := (blk_cell HS.out.vars.x 3).trans rfl; have x4 := (blk_cell HS.out.vars.x 4).trans rfl; have x5 := (blk_cell HS.out.vars.x 5).trans rfl; have x6 := (blk_cell HS.out.vars.x 6).trans rfl; clear h1 h2 h3 h4 l0w l0 o0 fo)
  refine (key_calls x _).mono ?_
  rintro e w4 ⟨he, hb⟩
  rw [HK1.out, HK2.out] at he
  obtain rfl := he
  have HS4 := Aside0.mk (HS.out.mv hb)
  clear hb x0 x1 x2 x3 x4 x5 x6 HS HM HL
  have x1 := (blk_cell HS4.out.vars.x 1).trans rfl
  have l0 := (blk_cell HS4.out.vars.l 0).trans rfl
  go_wp2_with fail
  refine (must_yes _ _).mono ?_
  rintro e w' ⟨rfl, rfl⟩
  go_wp2_with fail
  refine (Find_calls A c l x.f1 _ (Kd.C_below HR0.out HS4.out.below) (by omega)).mono ?_
  rintro e w5 ⟨he, hb⟩
  rw [HI.out] at he
  obtain rfl := he
  have HS5 := Aside0.mk (HS4.out.mv hb)
  have HS8 := Aside0.mk (((HS5.out.alloc (.cells #[.string ((findV l x.f1).getD ⟨#[]⟩)] 9 (0, 0))).alloc (.cells #[.bool true] 4 (0, 0))).alloc (mapO w.heap.size w5.heap.size (w5.heap.size + 1) 5))
  clear hb x1 l0
  have hmm := run_make69 w.heap.size w5.heap.size (w5.heap.size + 1)
  have i0 := run_ins w.heap.size w5.heap.size (w5.heap.size + 1) 0 _ rfl (by decide) ((w5.alloc (.cells #[.string ((findV l x.f1).getD ⟨#[]⟩)] 9 (0, 0))).alloc (.cells #[.bool true] 4 (0, 0)))
  have i1 := run_ins w.heap.size w5.heap.size (w5.heap.size + 1) 1 _ rfl (by decide) ((w5.alloc (.cells #[.string ((findV l x.f1).getD ⟨#[]⟩)] 9 (0, 0))).alloc (.cells #[.bool true] 4 (0, 0)))
  have i2 := run_ins w.heap.size w5.heap.size (w5.heap.size + 1) 2 _ rfl (by decide) ((w5.alloc (.cells #[.string ((findV l x.f1).getD ⟨#[]⟩)] 9 (0, 0))).alloc (.cells #[.bool true] 4 (0, 0)))
  have i3 := run_ins w.heap.size w5.heap.size (w5.heap.size + 1) 3 _ rfl (by decide) ((w5.alloc (.cells #[.string ((findV l x.f1).getD ⟨#[]⟩)] 9 (0, 0))).alloc (.cells #[.bool true] 4 (0, 0)))
  have i4 := run_ins w.heap.size w5.heap.size (w5.heap.size + 1) 4 _ rfl (by decide) ((w5.alloc (.cells #[.string ((findV l x.f1).getD ⟨#[]⟩)] 9 (0, 0))).alloc (.cells #[.bool true] 4 (0, 0)))
  simp only [Int.cast_ofNat_Int, ptr, Nat.zero_add, Nat.reduceAdd, Int.reduceAdd, World.size_alloc] at i0 i1 i2 i3 i4
  have x0 := (blk_cell HS8.out.vars.x 0).trans rfl
  have lk := run_look (b := w.heap.size) (bv := w5.heap.size) (bi := w5.heap.size + 1) (k := x.f0) 3 _ rfl (by decide) HF.out _ (heap_new ((w5.alloc (.cells #[.string ((findV l x.f1).getD ⟨#[]⟩)] 9 (0, 0))).alloc (.cells #[.bool true] 4 (0, 0))) (mapO w.heap.size w5.heap.size (w5.heap.size + 1) 5))
  simp only [World.size_alloc, ptr] at lk
  have nf := run_neq_func
  have nn := run_neq_nofunc
  go_wp2_with fail
  refine (must_yes _ _).mono ?_
  rintro e w' ⟨rfl, rfl⟩
  go_wp2_with fail
  have hv8 : ((((w5.alloc (.cells #[.string ((findV l x.f1).getD ⟨#[]⟩)] 9 (0, 0))).alloc (.cells #[.bool true] 4 (0, 0))).alloc (mapO w.heap.size w5.heap.size (w5.heap.size + 1) 5))).cell? ⟨w5.heap.size, 0, none⟩ = some (.string ((findV l x.f1).getD ⟨#[]⟩)) := by
    have h := heap_new w5 (.cells #[.string ((findV l x.f1).getD ⟨#[]⟩)] 9 (0, 0))
    exact (blk_cell (blk_below h (below_alloc (below_alloc (Below.refl _ _) (.cells #[.bool true] 4 (0, 0))) (mapO w.heap.size w5.heap.size (w5.heap.size + 1) 5))) 0).trans rfl
  have hi8 : ((((w5.alloc (.cells #[.string ((findV l x.f1).getD ⟨#[]⟩)] 9 (0, 0))).alloc (.cells #[.bool true] 4 (0, 0))).alloc (mapO w.heap.size w5.heap.size (w5.heap.size + 1) 5))).cell? ⟨w5.heap.size + 1, 0, none⟩ = some (.bool true) := by
    have h := heap_new (w5.alloc (.cells #[.string ((findV l x.f1).getD ⟨#[]⟩)] 9 (0, 0))) (.cells #[.bool true] 4 (0, 0))
    rw [World.size_alloc] at h
    exact (blk_cell (blk_below h (below_alloc (Below.refl _ _) (mapO w.heap.size w5.heap.size (w5.heap.size + 1) 5))) 0).trans rfl
  refine (do5_yes _ _ _ _ A c l x _ _ hi8 HS8.out.vars HS8.out.out (Kd.C_below HR0.out HS8.out.below) hl HK.out).mono ?_
  rintro e w9 ⟨v9, w8, rfl, hb8, ho8, h9⟩
  obtain ⟨A9, c9, rfl⟩ := Kd.R_slice ho8
  have HO9 := Aside0.mk h9.here
  have HR9 := Aside0.mk ((h9.other _ (by omega)).trans (blk_below HS8.out.reply hb8))
  have HOW := Aside0.mk (Kd.R_lower (own_only ho8 (blk_below HS8.out.out hb8) h9 (by decide)) HS8.out.below.size)
  have HBB := Aside0.mk ((HS8.out.below.trans (hb8.mono HS8.out.below.size)).trans (h9.below (by omega)))
  clear h9 hb8 ho8 x0 lk i0 i1 i2 i3 i4 hmm hi8 hv8
  have o0 := (blk_cell HO9.out 0).trans rfl
  have fo := blk_frozen HO9.out 0
  have r0 := (blk_cell HR9.out 0).trans rfl
  have f0 := blk_frozen HR9.out 0
  have r1 := (blk_cell HR9.out 1).trans rfl
  have f1 := blk_frozen HR9.out 1
  have r2 := (blk_cell HR9.out 2).trans rfl
  have f2 := blk_frozen HR9.out 2
  have r3 := (blk_cell HR9.out 3).trans rfl
  have f3 := blk_frozen HR9.out 3
  have r4 := (blk_cell HR9.out 4).trans rfl
  have f4 := blk_frozen HR9.out 4
  have r5 := (blk_cell HR9.out 5).trans rfl
  have f5 := blk_frozen HR9.out 5
  have r6 := (blk_cell HR9.out 6).trans rfl
  have f6 := blk_frozen HR9.out 6
  go_wp2
  go_region
  go_wp2
  simp only [bodyPostD]
  exact fin16 (by unfold doS; rw [if_neg (by rw [HK.out]; decide), if_neg (by rw [HK2.out]; simp), if_neg (by rw [HF.out]; decide), if_neg (by rw [HF.out]; decide), if_neg (by rw [HF.out]; decide), if_pos HF.out]; unfold isIn; rw [HI.out]; rfl) (HBB.out) HO9.out HR9.out (HOW.out) (noCells _ _) (fun k _ => by simp [Value.ownBlock]) (by rfl) (by rfl)
end Go.Proofs.Ytcnmefocbjilbaa.G
namespace Go.Proofs.Ytcnmefocbjilbaa.G
open Go.RowKit Go.Proofs.YtcnmefocbjilbaaW.PrintWords Go.Proofs.YtcnmefocbjilbaaW.PrintLast Go.Proofs.YtcnmefocbjilbaaW.PrintMore
open Go.Proofs.YtcnmefocbjilbaaFlat
set_option maxHeartbeats 1000000
set_option maxRecDepth 20000

theorem Do_scan (A : Option Addr) (c : Nat) (l : List S40) (x : S26) (w : World) (HR : Kd.C k40 w A l.length l) (hc : l.length ≤ c) (hl : l.length < 4398046511102) (hr : rightB l = true) (hk : hasKey x = false) (hf : x.f0 = 6) (hs : scanOk x = true) :
    Calls Try.prog 11 #[.slice A l.length c, .agg (cellsC x)] w (DoPost l x w) := by
  have HR0 := Aside0.mk HR
  have HK := Aside0.mk hr
  have HK1 := Aside0.mk hk
  have HF := Aside0.mk hf
  have HSc := Aside0.mk hs
  clear HR hr hk hf hs
  unfold cellsC
  have hmf : ∀ (fn : Fn) (first cap : Array Value) (w : World), (Instr.makeFunc fn first cap).run Try.prog w = .ok (.func fn first cap) w := fun _ _ _ _ => rfl
  have hms := make40 l.length (by omega)
  go_enter_defers Try.func11, Try.ntmps11
  go_wp2_with fail
  show Calls Try.prog 24 _ (startW A l.length c x w) _
  refine (cells_Right_calls A c l _ (Kd.C_below HR0.out (start_below A l.length c x w))).mono ?_
  rintro e w1 ⟨he, hb⟩
  rw [HK.out] at he
  obtain rfl := he
  have HB := Aside0.mk ((start_below A l.length c x w).trans (hb.mono (by rw [start_size]; omega)))
  have hz : w.heap.size + 4 ≤ w1.heap.size := by have := hb.size; rw [start_size] at this; omega
  have HV := Aside0.mk ((start_vars A l.length c x w).below hb)
  have HO := Aside0.mk (blk_below (start_out A l.length c x w) hb)
  have HRp := Aside0.mk (blk_below (start_reply A l.length c x w) hb)
  have hba := below_alloc (Below.refl w1.heap.size w1) (madeO l.length)
  have l0w := (blk_cell HV.out.l 0).trans rfl
  have l0 := (blk_cell (HV.out.below hba).l 0).trans rfl
  have o0 := (blk_cell (blk_below HO.out hba) 0).trans rfl
  have fo := blk_frozen (blk_below HO.out hba) 0
  have hO2 := Only.set (Only.refl (blk_below HO.out hba)) 0 (.slice (some ⟨w1.heap.size, 0, none⟩) l.length l.length)
  have HM := Aside0.mk (own_only (own_made40 l.length (by omega) w1 w1.heap.size (Nat.le_refl _)) (blk_below HO.out hba) hO2 (by decide))
  have HL := Aside0.mk (Kd.C_below HR0.out ((HB.out.trans (hba.mono HB.out.size)).trans (hO2.below (by omega))))
  have hs2 : w1.heap.size ≤ ((w1.alloc (madeO l.length)).setCell ⟨w.heap.size + 1 + 1, 0, none⟩ (.slice (some ⟨w1.heap.size, 0, none⟩) l.length l.length)).heap.size := by rw [hO2.size]; simp
  clear hb hba hO2
  go_wp2_with ((with_reducible refine gate_builtin (b := .copy) (xs := #[.tmp 23, .tmp 24]) rfl ?_); go_must (refine copyRow (w0 := (w1.alloc (madeO l.length)).setCell ⟨w.heap.size + 1 + 1, 0, none⟩ (.slice (some ⟨w1.heap.size, 0, none⟩) l.length l.length)) w1.heap.size rfl (.tmp 23) (.tmp 24) rfl (.slice (some ⟨w1.heap.size, 0, none⟩) l.length l.length) (List.replicate l.length z40) l A c rfl rfl (by simp) HM.out HL.out (Below.refl _ _) hs2 ?_); intro w3 h1 h2 h3 h4; have HS := Aside0.mk (copied hl HB.out hz HV.out HO.out HRp.out h1 h2); have x0 := (blk_cell HS.out.vars.x 0).trans rfl; have x1 := (blk_cell HS.out.vars.x 1).trans rfl; have x2 := (blk_cell HS.out.vars.x 2).trans rfl; have x3 := (blk_cell HS.out.vars.x 3).trans rfl; have x4 := (blk_cell HS.out.vars.x 4).trans rfl; have x5 := (blk_cell HS.out.vars.x 5).trans rfl; have x6 := (blk_cell HS.out.vars.x 6).trans rfl; clear h1 h2 h3 h4 l0w l0 o0 fo)
  refine (key_calls x _).mono ?_
  rintro e w4 ⟨he, hb⟩
  rw [HK1.out] at he
  obtain rfl := he
  have HS4 := Aside0.mk (HS.out.mv hb)
  clear hb x0 x1 x2 x3 x4 x5 x6 HS HM HL
  have x1 := (blk_cell HS4.out.vars.x 1).trans rfl
  have l0 := (blk_cell HS4.out.vars.l 0).trans rfl
  go_wp2_with fail
  refine (Find_calls A c l x.f1 _ (Kd.C_below HR0.out HS4.out.below) (by omega)).mono ?_
  rintro e w5 ⟨he, hb⟩
  obtain rfl := he
  have HS5 := Aside0.mk (HS4.out.mv hb)
  have HS8 := Aside0.mk (((HS5.out.alloc (.cells #[.string ((findV l x.f1).getD ⟨#[]⟩)] 9 (0, 0))).alloc (.cells #[.bool (findV l x.f1).isSome] 4 (0, 0))).alloc (mapO w.heap.size w5.heap.size (w5.heap.size + 1) 5))
  clear hb x1 l0
  have hmm := run_make69 w.heap.size w5.heap.size (w5.heap.size + 1)
  have i0 := run_ins w.heap.size w5.heap.size (w5.heap.size + 1) 0 _ rfl (by decide) ((w5.alloc (.cells #[.string ((findV l x.f1).getD ⟨#[]⟩)] 9 (0, 0))).alloc (.cells #[.bool (findV l x.f1).isSome] 4 (0, 0)))
  have i1 := run_ins w.heap.size w5.heap.size (w5.heap.size + 1) 1 _ rfl (by decide) ((w5.alloc (.cells #[.string ((findV l x.f1).getD ⟨#[]⟩)] 9 (0, 0))).alloc (.cells #[.bool (findV l x.f1).isSome] 4 (0, 0)))
  have i2 := run_ins w.heap.size w5.heap.size (w5.heap.size + 1) 2 _ rfl (by decide) ((w5.alloc (.cells #[.string ((findV l x.f1).getD ⟨#[]⟩)] 9 (0, 0))).alloc (.cells #[.bool (findV l x.f1).isSome] 4 (0, 0)))
  have i3 := run_ins w.heap.size w5.heap.size (w5.heap.size + 1) 3 _ rfl (by decide) ((w5.alloc (.cells #[.string ((findV l x.f1).getD ⟨#[]⟩)] 9 (0, 0))).alloc (.cells #[.bool (findV l x.f1).isSome] 4 (0, 0)))
  have i4 := run_ins w.heap.size w5.heap.size (w5.heap.size + 1) 4 _ rfl (by decide) ((w5.alloc (.cells #[.string ((findV l x.f1).getD ⟨#[]⟩)] 9 (0, 0))).alloc (.cells #[.bool (findV l x.f1).isSome] 4 (0, 0)))
  simp only [Int.cast_ofNat_Int, ptr, Nat.zero_add, Nat.reduceAdd, Int.reduceAdd, World.size_alloc] at i0 i1 i2 i3 i4
  have x0 := (blk_cell HS8.out.vars.x 0).trans rfl
  have lk := run_look (b := w.heap.size) (bv := w5.heap.size) (bi := w5.heap.size + 1) (k := x.f0) 4 _ rfl (by decide) HF.out _ (heap_new ((w5.alloc (.cells #[.string ((findV l x.f1).getD ⟨#[]⟩)] 9 (0, 0))).alloc (.cells #[.bool (findV l x.f1).isSome] 4 (0, 0))) (mapO w.heap.size w5.heap.size (w5.heap.size + 1) 5))
  simp only [World.size_alloc, ptr] at lk
  have nf := run_neq_func
  have nn := run_neq_nofunc
  go_wp2_with fail
  refine (must_yes _ _).mono ?_
  rintro e w' ⟨rfl, rfl⟩
  go_wp2_with fail
  refine (do6_yes _ _ _ A c l x _ _ _ _ _ _ _ _ HS8.out.vars HS8.out.reply (Kd.C_below HR0.out HS8.out.below) hl HK.out HSc.out).mono ?_
  rintro e w9 ⟨A9, c9, w8, rfl, hb8, hc8, ho8, h9⟩
  have HO9 := Aside0.mk ((h9.other _ (by omega)).trans (blk_below HS8.out.out hb8))
  have HR9 := Aside0.mk h9.here
  have hre := blk_below HS8.out.reply hb8
  have HOW := Aside0.mk (own_only (Kd.R_below HS8.out.own hb8) hre h9 (by decide))
  have HOC := Aside0.mk (show OwnC _ w.heap.size _ _ from ⟨A9, _, rfl, Nat.le_refl _, c9, Kd.R_lower (own_only ho8 hre h9 (by decide)) HS8.out.below.size⟩)
  have HAP := Aside0.mk (show ∀ k, (Value.slice (some ⟨w1.heap.size, 0, none⟩) l.length l.length).ownBlock = some k → (Value.slice A9 ((scanAll l x).take x.f4.toNat).length ((scanAll l x).take x.f4.toNat).length).ownBlock ≠ some k from fun k h1 h2 => by
    have q1 := Kd.R_lt HS8.out.own k h1
    have q2 := Kd.R_base ho8 k (by cases A9 <;> exact h2)
    omega)
  have HBB := Aside0.mk ((HS8.out.below.trans (hb8.mono HS8.out.below.size)).trans (h9.below (by omega)))
  clear h9 hb8 ho8 hre x0 lk i0 i1 i2 i3 i4 hmm
  generalize hT : (scanAll l x).take x.f4.toNat = T at HR9 HOC HAP
  have HT := Aside0.mk hT
  clear hT
  have o0 := (blk_cell HO9.out 0).trans rfl
  have fo := blk_frozen HO9.out 0
  have r0 := (blk_cell HR9.out 0).trans rfl
  have f0 := blk_frozen HR9.out 0
  have r1 := (blk_cell HR9.out 1).trans rfl
  have f1 := blk_frozen HR9.out 1
  have r2 := (blk_cell HR9.out 2).trans rfl
  have f2 := blk_frozen HR9.out 2
  have r3 := (blk_cell HR9.out 3).trans rfl
  have f3 := blk_frozen HR9.out 3
  have r4 := (blk_cell HR9.out 4).trans rfl
  have f4 := blk_frozen HR9.out 4
  have r5 := (blk_cell HR9.out 5).trans rfl
  have f5 := blk_frozen HR9.out 5
  have r6 := (blk_cell HR9.out 6).trans rfl
  have f6 := blk_frozen HR9.out 6
  go_wp2
  go_region
  go_wp2
  simp only [bodyPostD]
  exact fin16 (by unfold doS; rw [if_neg (by rw [HK.out]; decide), if_neg (by rw [HK1.out]; simp), if_neg (by rw [HF.out]; decide), if_neg (by rw [HF.out]; decide), if_neg (by rw [HF.out]; decide), if_neg (by rw [HF.out]; decide), if_pos HF.out]; rw [if_pos HSc.out, HT.out]) (HBB.out) HO9.out HR9.out (HOW.out) (HOC.out) (HAP.out) (by rfl) (by rfl)
theorem Do_arg (A : Option Addr) (c : Nat) (l : List S40) (x : S26) (w : World) (HR : Kd.C k40 w A l.length l) (hc : l.length ≤ c) (hl : l.length < 4398046511102) (hr : rightB l = true) (hk : hasKey x = false) (hf : x.f0 = 6) (hs : scanOk x = false) :
    Calls Try.prog 11 #[.slice A l.length c, .agg (cellsC x)] w (DoPost l x w) := by
  have HR0 := Aside0.mk HR
  have HK := Aside0.mk hr
  have HK1 := Aside0.mk hk
  have HF := Aside0.mk hf
  have HSc := Aside0.mk hs
  clear HR hr hk hf hs
  unfold cellsC
  have hmf : ∀ (fn : Fn) (first cap : Array Value) (w : World), (Instr.makeFunc fn first cap).run Try.prog w = .ok (.func fn first cap) w := fun _ _ _ _ => rfl
  have hms := make40 l.length (by omega)
  go_enter_defers Try.func11, Try.ntmps11
  go_wp2_with fail
  show Calls Try.prog 24 _ (startW A l.length c x w) _
  refine (cells_Right_calls A c l _ (Kd.C_below HR0.out (start_below A l.length c x w))).mono ?_
  rintro e w1 ⟨he, hb⟩
  rw [HK.out] at he
  obtain rfl := he
  have HB := Aside0.mk ((start_below A l.length c x w).trans (hb.mono (by rw [start_size]; omega)))
  have hz : w.heap.size + 4 ≤ w1.heap.size := by have := hb.size; rw [start_size] at this; omega
  have HV := Aside0.mk ((start_vars A l.length c x w).below hb)
  have HO := Aside0.mk (blk_below (start_out A l.length c x w) hb)
  have HRp := Aside0.mk (blk_below (start_reply A l.length c x w) hb)
  have hba := below_alloc (Below.refl w1.heap.size w1) (madeO l.length)
  have l0w := (blk_cell HV.out.l 0).trans rfl
  have l0 := (blk_cell (HV.out.below hba).l 0).trans rfl
  have o0 := (blk_cell (blk_below HO.out hba) 0).trans rfl
  have fo := blk_frozen (blk_below HO.out hba) 0
  have hO2 := Only.set (Only.refl (blk_below HO.out hba)) 0 (.slice (some ⟨w1.heap.size, 0, none⟩) l.length l.length)
  have HM := Aside0.mk (own_only (own_made40 l.length (by omega) w1 w1.heap.size (Nat.le_refl _)) (blk_below HO.out hba) hO2 (by decide))
  have HL := Aside0.mk (Kd.C_below HR0.out ((HB.out.trans (hba.mono HB.out.size)).trans (hO2.below (by omega))))
  have hs2 : w1.heap.size ≤ ((w1.alloc (madeO l.length)).setCell ⟨w.heap.size + 1 + 1, 0, none⟩ (.slice (some ⟨w1.heap.size, 0, none⟩) l.length l.length)).heap.size := by rw [hO2.size]; simp
  clear hb hba hO2
  go_wp2_with ((with_reducible refine gate_builtin (b := .copy) (xs := #[.tmp 23, .tmp 24]) rfl ?_); go_must (refine copyRow (w0 := (w1.alloc (madeO l.length)).setCell ⟨w.heap.size + 1 + 1, 0, none⟩ (.slice (some ⟨w1.heap.size, 0, none⟩) l.length l.length)) w1.heap.size rfl (.tmp 23) (.tmp 24) rfl (.slice (some ⟨w1.heap.size, 0, none⟩) l.length l.length) (List.replicate l.length z40) l A c rfl rfl (by simp) HM.out HL.out (Below.refl _ _) hs2 ?_); intro w3 h1 h2 h3 h4; have HS := Aside0.mk (copied hl HB.out hz HV.out HO.out HRp.out h1 h2); have x0 := (blk_cell HS.out.vars.x 0).trans rfl; have x1 := (blk_cell HS.out.vars.x 1).trans rfl; have x2 := (blk_cell HS.out.vars.x 2).trans rfl; have x3 := (blk_cell HS.out.vars.x 3).trans rfl; have x4 := (blk_cell HS.out.vars.x 4).trans rfl; have x5 := (blk_cell HS.out.vars.x 5).trans rfl; have x6 := (blk_cell HS.out.vars.x 6).trans rfl; clear h1 h2 h3 h4 l0w l0 o0 fo)
  refine (key_calls x _).mono ?_
  rintro e w4 ⟨he, hb⟩
  rw [HK1.out] at he
  obtain rfl := he
  have HS4 := Aside0.mk (HS.out.mv hb)
  clear hb x0 x1 x2 x3 x4 x5 x6 HS HM HL
  have x1 := (blk_cell HS4.out.vars.x 1).trans rfl
  have l0 := (blk_cell HS4.out.vars.l 0).trans rfl
  go_wp2_with fail
  refine (Find_calls A c l x.f1 _ (Kd.C_below HR0.out HS4.out.below) (by omega)).mono ?_
  rintro e w5 ⟨he, hb⟩
  obtain rfl := he
  have HS5 := Aside0.mk (HS4.out.mv hb)
  have HS8 := Aside0.mk (((HS5.out.alloc (.cells #[.string ((findV l x.f1).getD ⟨#[]⟩)] 9 (0, 0))).alloc (.cells #[.bool (findV l x.f1).isSome] 4 (0, 0))).alloc (mapO w.heap.size w5.heap.size (w5.heap.size + 1) 5))
  clear hb x1 l0
  have hmm := run_make69 w.heap.size w5.heap.size (w5.heap.size + 1)
  have i0 := run_ins w.heap.size w5.heap.size (w5.heap.size + 1) 0 _ rfl (by decide) ((w5.alloc (.cells #[.string ((findV l x.f1).getD ⟨#[]⟩)] 9 (0, 0))).alloc (.cells #[.bool (findV l x.f1).isSome] 4 (0, 0)))
  have i1 := run_ins w.heap.size w5.heap.size (w5.heap.size + 1) 1 _ rfl (by decide) ((w5.alloc (.cells #[.string ((findV l x.f1).getD ⟨#[]⟩)] 9 (0, 0))).alloc (.cells #[.bool (findV l x.f1).isSome] 4 (0, 0)))
  have i2 := run_ins w.heap.size w5.heap.size (w5.heap.size + 1) 2 _ rfl (by decide) ((w5.alloc (.cells #[.string ((findV l x.f1).getD ⟨#[]⟩)] 9 (0, 0))).alloc (.cells #[.bool (findV l x.f1).isSome] 4 (0, 0)))
  have i3 := run_ins w.heap.size w5.heap.size (w5.heap.size + 1) 3 _ rfl (by decide) ((w5.alloc (.cells #[.string ((findV l x.f1).getD ⟨#[]⟩)] 9 (0, 0))).alloc (.cells #[.bool (findV l x.f1).isSome] 4 (0, 0)))
  have i4 := run_ins w.heap.size w5.heap.size (w5.heap.size + 1) 4 _ rfl (by decide) ((w5.alloc (.cells #[.string ((findV l x.f1).getD ⟨#[]⟩)] 9 (0, 0))).alloc (.cells #[.bool (findV l x.f1).isSome] 4 (0, 0)))
  simp only [Int.cast_ofNat_Int, ptr, Nat.zero_add, Nat.reduceAdd, Int.reduceAdd, World.size_alloc] at i0 i1 i2 i3 i4
  have x0 := (blk_cell HS8.out.vars.x 0).trans rfl
  have lk := run_look (b := w.heap.size) (bv := w5.heap.size) (bi := w5.heap.size + 1) (k := x.f0) 4 _ rfl (by decide) HF.out _ (heap_new ((w5.alloc (.cells #[.string ((findV l x.f1).getD ⟨#[]⟩)] 9 (0, 0))).alloc (.cells #[.bool (findV l x.f1).isSome] 4 (0, 0))) (mapO w.heap.size w5.heap.size (w5.heap.size + 1) 5))
  simp only [World.size_alloc, ptr] at lk
  have nf := run_neq_func
  have nn := run_neq_nofunc
  go_wp2_with fail
  refine (must_yes _ _).mono ?_
  rintro e w' ⟨rfl, rfl⟩
  go_wp2_with fail
  refine (do6_no _ _ _ A l.length c x _ HS8.out.vars HSc.out).mono ?_
  rintro e w9 ⟨rfl, hb9⟩
  simp only [bodyPostD]
  exact refused (HS8.out.mv hb9) (by unfold doS; rw [if_neg (by rw [HK.out]; decide), if_neg (by rw [HK1.out]; simp), if_neg (by rw [HF.out]; decide), if_neg (by rw [HF.out]; decide), if_neg (by rw [HF.out]; decide), if_neg (by rw [HF.out]; decide), if_pos HF.out]; rw [if_neg (by rw [HSc.out]; decide)]) (by rfl) (by rfl)
theorem Do_other (A : Option Addr) (c : Nat) (l : List S40) (x : S26) (w : World) (HR : Kd.C k40 w A l.length l) (hc : l.length ≤ c) (hl : l.length < 4398046511102) (hr : rightB l = true) (hk : hasKey x = false) (hf : x.f0 < 2 ∨ 6 < x.f0) :
    Calls Try.prog 11 #[.slice A l.length c, .agg (cellsC x)] w (DoPost l x w) := by
  have HR0 := Aside0.mk HR
  have HK := Aside0.mk hr
  have HK1 := Aside0.mk hk
  have HF := Aside0.mk hf
  clear HR hr hk hf
  unfold cellsC
  have hmf : ∀ (fn : Fn) (first cap : Array Value) (w : World), (Instr.makeFunc fn first cap).run Try.prog w = .ok (.func fn first cap) w := fun _ _ _ _ => rfl
  have hms := make40 l.length (by omega)
  go_enter_defers Try.func11, Try.ntmps11
  go_wp2_with fail
  show Calls Try.prog 24 _ (startW A l.length c x w) _
  refine (cells_Right_calls A c l _ (Kd.C_below HR0.out (start_below A l.length c x w))).mono ?_
  rintro e w1 ⟨he, hb⟩
  rw [HK.out] at he
  obtain rfl := he
  have HB := Aside0.mk ((start_below A l.length c x w).trans (hb.mono (by rw [start_size]; omega)))
  have hz : w.heap.size + 4 ≤ w1.heap.size := by have := hb.size; rw [start_size] at this; omega
  have HV := Aside0.mk ((start_vars A l.length c x w).below hb)
  have HO := Aside0.mk (blk_below (start_out A l.length c x w) hb)
  have HRp := Aside0.mk (blk_below (start_reply A l.length c x w) hb)
  have hba := below_alloc (Below.refl w1.heap.size w1) (madeO l.length)
  have l0w := (blk_cell HV.out.l 0).trans rfl
  have l0 := (blk_cell (HV.out.below hba).l 0).trans rfl
  have o0 := (blk_cell (blk_below HO.out hba) 0).trans rfl
  have fo := blk_frozen (blk_below HO.out hba) 0
  have hO2 := Only.set (Only.refl (blk_below HO.out hba)) 0 (.slice (some ⟨w1.heap.size, 0, none⟩) l.length l.length)
  have HM := Aside0.mk (own_only (own_made40 l.length (by omega) w1 w1.heap.size (Nat.le_refl _)) (blk_below HO.out hba) hO2 (by decide))
  have HL := Aside0.mk (Kd.C_below HR0.out ((HB.out.trans (hba.mono HB.out.size)).trans (hO2.below (by omega))))
  have hs2 : w1.heap.size ≤ ((w1.alloc (madeO l.length)).setCell ⟨w.heap.size + 1 + 1, 0, none⟩ (.slice (some ⟨w1.heap.size, 0, none⟩) l.length l.length)).heap.size := by rw [hO2.size]; simp
  clear hb hba hO2
  go_wp2_with ((with_reducible refine gate_builtin (b := .copy) (xs := #[.tmp 23, .tmp 24]) rfl ?_); go_must (refine copyRow (w0 := (w1.alloc (madeO l.length)).setCell ⟨w.heap.size + 1 + 1, 0, none⟩ (.slice (some ⟨w1.heap.size, 0, none⟩) l.length l.length)) w1.heap.size rfl (.tmp 23) (.tmp 24) rfl (.slice (some ⟨w1.heap.size, 0, none⟩) l.length l.length) (List.replicate l.length z40) l A c rfl rfl (by simp) HM.out HL.out (Below.refl _ _) hs2 ?_); intro w3 h1 h2 h3 h4; have HS := Aside0.mk (copied hl HB.out hz HV.out HO.out HRp.out h1 h2); have x0 := (blk_cell HS.out.vars.x 0).trans rfl; have x1 := (blk_cell HS.out.vars.x 1).trans rfl; have x2 := (blk_cell HS.out.vars.x 2).trans rfl; have x3 := (blk_cell HS.out.vars.x 3).trans rfl; have x4 := (blk_cell HS.out.vars.x 4).trans rfl; have x5 := (blk_cell HS.out.vars.x 5).trans rfl; have x6 := (blk_cell HS.out.vars.x 6).trans rfl; clear h1 h2 h3 h4 l0w l0 o0 fo)
  refine (key_calls x _).mono ?_
  rintro e w4 ⟨he, hb⟩
  rw [HK1.out] at he
  obtain rfl := he
  have HS4 := Aside0.mk (HS.out.mv hb)
  clear hb x0 x1 x2 x3 x4 x5 x6 HS HM HL
  have x1 := (blk_cell HS4.out.vars.x 1).trans rfl
  have l0 := (blk_cell HS4.out.vars.l 0).trans rfl
  go_wp2_with fail
  refine (Find_calls A c l x.f1 _ (Kd.C_below HR0.out HS4.out.below) (by omega)).mono ?_
  rintro e w5 ⟨he, hb⟩
  obtain rfl := he
  have HS5 := Aside0.mk (HS4.out.mv hb)
  have HS8 := Aside0.mk (((HS5.out.alloc (.cells #[.string ((findV l x.f1).getD ⟨#[]⟩)] 9 (0, 0))).alloc (.cells #[.bool (findV l x.f1).isSome] 4 (0, 0))).alloc (mapO w.heap.size w5.heap.size (w5.heap.size + 1) 5))
  clear hb x1 l0
  have hmm := run_make69 w.heap.size w5.heap.size (w5.heap.size + 1)
  have i0 := run_ins w.heap.size w5.heap.size (w5.heap.size + 1) 0 _ rfl (by decide) ((w5.alloc (.cells #[.string ((findV l x.f1).getD ⟨#[]⟩)] 9 (0, 0))).alloc (.cells #[.bool (findV l x.f1).isSome] 4 (0, 0)))
  have i1 := run_ins w.heap.size w5.heap.size (w5.heap.size + 1) 1 _ rfl (by decide) ((w5.alloc (.cells #[.string ((findV l x.f1).getD ⟨#[]⟩)] 9 (0, 0))).alloc (.cells #[.bool (findV l x.f1).isSome] 4 (0, 0)))
  have i2 := run_ins w.heap.size w5.heap.size (w5.heap.size + 1) 2 _ rfl (by decide) ((w5.alloc (.cells #[.string ((findV l x.f1).getD ⟨#[]⟩)] 9 (0, 0))).alloc (.cells #[.bool (findV l x.f1).isSome] 4 (0, 0)))
  have i3 := run_ins w.heap.size w5.heap.size (w5.heap.size + 1) 3 _ rfl (by decide) ((w5.alloc (.cells #[.string ((findV l x.f1).getD ⟨#[]⟩)] 9 (0, 0))).alloc (.cells #[.bool (findV l x.f1).isSome] 4 (0, 0)))
  have i4 := run_ins w.heap.size w5.heap.size (w5.heap.size + 1) 4 _ rfl (by decide) ((w5.alloc (.cells #[.string ((findV l x.f1).getD ⟨#[]⟩)] 9 (0, 0))).alloc (.cells #[.bool (findV l x.f1).isSome] 4 (0, 0)))
  simp only [Int.cast_ofNat_Int, ptr, Nat.zero_add, Nat.reduceAdd, Int.reduceAdd, World.size_alloc] at i0 i1 i2 i3 i4
  have x0 := (blk_cell HS8.out.vars.x 0).trans rfl
  have lk := run_look_no (b := w.heap.size) (bv := w5.heap.size) (bi := w5.heap.size + 1) (k := x.f0) HF.out _ (heap_new ((w5.alloc (.cells #[.string ((findV l x.f1).getD ⟨#[]⟩)] 9 (0, 0))).alloc (.cells #[.bool (findV l x.f1).isSome] 4 (0, 0))) (mapO w.heap.size w5.heap.size (w5.heap.size + 1) 5))
  simp only [World.size_alloc, ptr] at lk
  have nf := run_neq_func
  have nn := run_neq_nofunc
  go_wp2_with fail
  refine (must_no _ _).mono ?_
  rintro e w' ⟨rfl, rfl⟩
  simp only [bodyPostD]
  exact refused HS8.out (by unfold doS; rw [if_neg (by rw [HK.out]; decide), if_neg (by rw [HK1.out]; simp), if_neg (by have := HF.out; omega), if_neg (by have := HF.out; omega), if_neg (by have := HF.out; omega), if_neg (by have := HF.out; omega), if_neg (by have := HF.out; omega)]) (by rfl) (by rfl)
end Go.Proofs.Ytcnmefocbjilbaa.G
namespace Go.Proofs.Ytcnmefocbjilbaa.G
open Go.RowKit Go.Proofs.YtcnmefocbjilbaaW.PrintWords Go.Proofs.YtcnmefocbjilbaaW.PrintLast Go.Proofs.YtcnmefocbjilbaaW.PrintMore
open Go.Proofs.YtcnmefocbjilbaaFlat
set_option maxHeartbeats 1000000

theorem Do_calls (A : Option Addr) (c : Nat) (l : List S40) (x : S26) (w : World) (HR : Kd.C k40 w A l.length l) (hc : l.length ≤ c) (hl : l.length < 4398046511102) :
    Calls Try.prog 11 #[.slice A l.length c, .agg (cellsC x)] w (DoPost l x w) := by
  cases hr : rightB l with
  | false => exact Do_wrong A c l x w HR hr
  | true =>
    cases hk : hasKey x with
    | true =>
      cases ho : okCall x with
      | false => exact Do_long A c l x w HR hl hr hk ho
      | true =>
        have h := hk
        unfold hasKey at h
        rw [Bool.and_eq_true, decide_eq_true_eq, decide_eq_true_eq] at h
        by_cases h2 : x.f0 = 2
        · exact Do_get A c l x w HR hc hl hr hk ho h2 _ rfl
        by_cases h3 : x.f0 = 3
        · cases hi : isIn x.f1 l with
          | true => exact Do_there A c l x w HR hc hl hr hk ho h3 hi
          | false => exact Do_insert A c l x w HR hc hl hr hk ho h3 hi
        by_cases h4 : x.f0 = 4
        · cases hi : isIn x.f1 l with
          | true => exact Do_update A c l x w HR hc hl hr hk ho h4 hi
          | false => exact Do_none4 A c l x w HR hc hl hr hk ho h4 hi
        have h5 : x.f0 = 5 := by omega
        cases hi : isIn x.f1 l with
        | true => exact Do_delete A c l x w HR hc hl hr hk ho h5 hi
        | false => exact Do_none5 A c l x w HR hc hl hr hk ho h5 hi
    | false =>
      by_cases h6 : x.f0 = 6
      · cases hs : scanOk x with
        | true => exact Do_scan A c l x w HR hc hl hr hk h6 hs
        | false => exact Do_arg A c l x w HR hc hl hr hk h6 hs
      · have h := hk
        unfold hasKey at h
        rw [Bool.and_eq_false_iff, decide_eq_false_iff_not, decide_eq_false_iff_not] at h
        exact Do_other A c l x w HR hc hl hr hk (by omega)
end Go.Proofs.Ytcnmefocbjilbaa.G
namespace Go.Proofs.Ytcnmefocbjilbaa.G
open Go.RowKit Go.Proofs.YtcnmefocbjilbaaW.PrintWords Go.Proofs.YtcnmefocbjilbaaW.PrintLast Go.Proofs.YtcnmefocbjilbaaW.PrintMore
open Go.Proofs.YtcnmefocbjilbaaFlat
set_option maxHeartbeats 1000000

def GreatPost (l : List S40) (w : World) (e : Ending) (w' : World) : Prop := (∃ b, e = .returned (.bool b) ∧ (b = false → l.length ≤ 40)) ∧ Below w.heap.size w w'
theorem great_calls (A : Option Addr) (c : Nat) (l : List S40) (w : World) (HR : Kd.C k40 w A l.length l) :
    Calls Try.prog 7 #[.slice A l.length c] w (GreatPost l w) := by
  have HR0 := Aside0.mk HR
  have hm := Kd.C_max HR
  clear HR
  go_enter Try.func7, Try.ntmps7
  go_wp2
  go_loopw [3, 4] (fun v3 v4 w' => ∃ (k : Nat) (n : Int), k ≤ l.length ∧ k ≤ 40 ∧ v3 = .int .i64 n ∧ v4 = .int .i64 k ∧ Aside0 (Below w.heap.size w w')) (fun _ v4 _ => l.length - (intOf v4).toNat)
  case atStart => exact ⟨0, 0, by omega, by omega, rfl, rfl, ⟨Below.refl _ _⟩⟩
  case round =>
    obtain ⟨k, n, hk, hk2, rfl, rfl, HB⟩ := hrel
    by_cases hlt : k < l.length ∧ k < 40
    · obtain ⟨hlt, h40⟩ := hlt
      obtain ⟨ad, rfl, hx0, hx1⟩ := at_T40 HR0.out k (by omega) (by omega)
      simp only [Int.toNat_natCast] at hx0 hx1
      replace hx0 := pw_cell_below HB.out hx0
      replace hx1 := pw_cell_below HB.out hx1
      have d1 : decide ((k : Int) < (l.length : Int)) = true := decide_eq_true (by omega)
      go_wp2_with fail
      go_quiet (fail)
      go_wp2
      go_roundw
      case rel => exact ⟨k + 1, _, by omega, by omega, rfl, by go_num, ⟨pw_below_drewN HB.out _⟩⟩
      case measure => simp [intOf]; omega
    · by_cases hlt2 : k < l.length
      · have h40 : ¬ (k < 40) := by omega
        have d2 : decide ((k : Int) < 40) = false := decide_eq_false (by omega)
        go_wp2_with fail
        go_ret
        exact ⟨⟨_, rfl, fun h => by simp at h⟩, HB.out⟩
      · obtain rfl : k = l.length := by omega
        clear hlt hlt2
        go_wp2_with fail
        go_ret
        exact ⟨⟨_, rfl, fun h => by simp at h; omega⟩, HB.out⟩

theorem Small_calls (x : S26) (w : World) : Calls Try.prog 8 #[.agg (cellsC x)] w fun e w' => (∃ b, e = .returned (.bool b)) ∧ Below w.heap.size w w' := by
  unfold cellsC
  go_enter Try.func8, Try.ntmps8
  go_wp2
  go_ret
  exact ⟨⟨_, rfl⟩, (Below.refl _ _).alloc (Nat.le_refl _) _⟩
theorem Copy_calls (A : Option Addr) (c : Nat) (l : List S40) (w : World) (HR : Kd.C k40 w A l.length l) (hl : l.length < 4398046511103) :
    Calls Try.prog 10 #[.slice A l.length c] w (ClonePost l w) := by
  have HR0 := Aside0.mk HR
  have HL := Aside0.mk hl
  clear HR hl
  go_enter Try.func10, Try.ntmps10
  have HO := Aside0.mk (Kd.R_nil k40 40 w w.heap.size (fun _ => True))
  go_wp2_with (at_builtin; go_must (refine appAll (w0 := w) w.heap.size rfl (.tmp 4) (.tmp 5) rfl (.slice none 0 0) [] l A c rfl rfl HO.out HR0.out (Below.refl _ _) (Nat.le_refl _) (by have := HL.out; simp; omega) ?_); intro v1 w3 h1 h2 h3)
  go_ret
  exact ⟨v1, rfl, h1, h2⟩
end Go.Proofs.Ytcnmefocbjilbaa.G
namespace Go.Proofs.Ytcnmefocbjilbaa.G
open Go.RowKit Go.Proofs.YtcnmefocbjilbaaW.PrintWords Go.Proofs.YtcnmefocbjilbaaW.PrintLast Go.Proofs.YtcnmefocbjilbaaW.PrintMore
open Go.Proofs.YtcnmefocbjilbaaFlat
set_option maxHeartbeats 1000000

theorem eq40 (d : Nat) (w : World) (x0 y0 : ByteArray) (x1 y1 : ByteArray) :
    (Op.equalIn (d + 2) 40 (.agg #[.string x0, .string x1]) (.agg #[.string y0, .string y1])).run Try.prog w = .ok (x0.toList == y0.toList && (x1.toList == y1.toList)) w := by
  refine eqA_of Try.underlying40 (by kernel_rfl) ?_
  refine eqf_cons (by rfl) (by go_simp; rfl) (by go_simp; rfl) (by go_simp) ?_
  exact eqf_last (by rfl) (by go_simp; rfl) (by go_simp; rfl) (by go_simp)
theorem neq40 (x0 y0 x1 y1 : ByteArray) (w : World) : (binOp .neq 40 (.agg #[.string x0, .string x1]) (.agg #[.string y0, .string y1])).run Try.prog w = .ok (.bool (!(x0.toList == y0.toList && (x1.toList == y1.toList)))) w := by
  have h : (Op.equal 40 (.agg #[.string x0, .string x1]) (.agg #[.string y0, .string y1])).run Try.prog w = .ok (x0.toList == y0.toList && (x1.toList == y1.toList)) w := eq40 9998 w x0 y0 x1 y1
  simp only [binOp]
  simp [h]
def sameB (x y : S40) : Bool := x.f0.toList == y.f0.toList && (x.f1.toList == y.f1.toList)
theorem sameB_iff (x y : S40) : sameB x y = true ↔ x = y := by
  unfold sameB
  rw [Bool.and_eq_true, beq_iff_eq, beq_iff_eq]
  constructor
  · rintro ⟨h1, h2⟩
    cases x; cases y
    simp only at h1 h2
    rw [tl_inj h1, tl_inj h2]
  · rintro rfl; exact ⟨rfl, rfl⟩
def SamePost (xs ys : List S40) (w : World) (e : Ending) (w' : World) : Prop := (∃ b, e = .returned (.bool b) ∧ (b = true ↔ xs = ys)) ∧ Below w.heap.size w w'
theorem rd40 (xs : List S40) (k : Nat) (h : k < xs.length) : rd_T40 xs (k : Int) = xs[k] := by simp [rd_T40, h]
theorem same_all {xs ys : List S40} (hl : xs.length = ys.length) (h : ∀ i : Nat, i < xs.length → sameB (rd_T40 xs i) (rd_T40 ys i) = true) : xs = ys := by
  refine List.ext_getElem hl fun i h1 h2 => ?_
  have := (sameB_iff _ _).1 (h i h1)
  rwa [rd40 _ _ h1, rd40 _ _ h2] at this

theorem ref10_Same_calls (A B : Option Addr) (c d : Nat) (xs ys : List S40) (w : World) (HX : Kd.C k40 w A xs.length xs) (HY : Kd.C k40 w B ys.length ys) :
    Calls Try.prog 13 #[.slice A xs.length c, .slice B ys.length d] w (SamePost xs ys w) := by
  have HX0 := Aside0.mk HX
  have HY0 := Aside0.mk HY
  have hm := Kd.C_max HX
  have hm2 := Kd.C_max HY
  clear HX HY
  by_cases hl : xs.length = ys.length
  · have HL := Aside0.mk hl
    rw [← hl]
    clear hl
    go_enter Try.func13, Try.ntmps13
    go_wp2
    go_loopw [5] (fun v w' => ∃ k : Nat, k ≤ xs.length ∧ v = .int .i64 k ∧ Aside0 (∀ i : Nat, i < k → sameB (rd_T40 xs i) (rd_T40 ys i) = true) ∧ Aside0 (Below w.heap.size w w')) (fun v _ => xs.length - (intOf v).toNat)
    case atStart => exact ⟨0, by omega, rfl, ⟨fun i h => absurd h (by omega)⟩, ⟨Below.refl _ _⟩⟩
    case round =>
      obtain ⟨k, hk, rfl, HF, HB⟩ := hrel
      by_cases hlt : k < xs.length
      · obtain ⟨ad, rfl, hx0, hx1⟩ := at_T40 HX0.out k (by omega) (by omega)
        obtain ⟨bd, rfl, hy0, hy1⟩ := at_T40 HY0.out k (by omega) (by have := HL.out; omega)
        simp only [Int.toNat_natCast] at hx0 hx1 hy0 hy1
        replace hx0 := pw_cell_below HB.out hx0
        replace hx1 := pw_cell_below HB.out hx1
        replace hy0 := pw_cell_below HB.out hy0
        replace hy1 := pw_cell_below HB.out hy1
        have hn := neq40 (rd_T40 xs k).f0 (rd_T40 ys k).f0 (rd_T40 xs k).f1 (rd_T40 ys k).f1
        cases hs : sameB (rd_T40 xs k) (rd_T40 ys k)
        all_goals
          have Hs := Aside0.mk hs
          unfold sameB at hs
          simp only [hs] at hn
          clear hs
          go_wp2_with fail
          go_quiet (fail)
          go_wp2
        · go_ret
          exact ⟨⟨false, rfl, by simp; exact fun e => by rw [e] at Hs; exact absurd Hs.out (by simp [sameB])⟩, pw_below_drewN HB.out _⟩
        · go_roundw
          case rel => exact ⟨k + 1, by omega, by go_num, ⟨fun i h => by
            rcases Nat.lt_or_ge i k with h1 | h1
            · exact HF.out i h1
            · obtain rfl : i = k := by omega
              exact Hs.out⟩, ⟨pw_below_drewN HB.out _⟩⟩
          case measure => simp [intOf]; omega
      · obtain rfl : k = xs.length := by omega
        clear hlt
        go_wp2
        go_ret
        exact ⟨⟨true, rfl, by simp; exact same_all HL.out HF.out⟩, HB.out⟩
  · have HL := Aside0.mk hl
    have hd : decide ((xs.length : Int) ≠ (ys.length : Int)) = true := by simp; omega
    have hne : ¬ ((xs.length : Int) = (ys.length : Int)) := by omega
    go_enter Try.func13, Try.ntmps13
    go_wp2
    go_ret
    exact ⟨⟨false, rfl, by simp; exact fun e => HL.out (by rw [e])⟩, Below.refl _ _⟩
theorem slicesEqual_calls (A B : Option Addr) (c d : Nat) (xs ys : List S40) (w : World) (HX : Kd.C k40 w A xs.length xs) (HY : Kd.C k40 w B ys.length ys) :
    Calls Try.prog 55 #[.slice A xs.length c, .slice B ys.length d] w (SamePost xs ys w) := by
  have HX0 := Aside0.mk HX
  have HY0 := Aside0.mk HY
  have hm := Kd.C_max HX
  have hm2 := Kd.C_max HY
  clear HX HY
  by_cases hl : xs.length = ys.length
  · have HL := Aside0.mk hl
    rw [← hl]
    clear hl
    go_enter Try.func55, Try.ntmps55
    go_wp2
    go_loopw [13] (fun v w' => ∃ k : Nat, k ≤ xs.length ∧ v = .int .i64 k ∧ Aside0 (∀ i : Nat, i < k → sameB (rd_T40 xs i) (rd_T40 ys i) = true) ∧ Aside0 (Below w.heap.size w w')) (fun v _ => xs.length - (intOf v).toNat)
    case atStart => exact ⟨0, by omega, rfl, ⟨fun i h => absurd h (by omega)⟩, ⟨Below.refl _ _⟩⟩
    case round =>
      obtain ⟨k, hk, rfl, HF, HB⟩ := hrel
      by_cases hlt : k < xs.length
      · obtain ⟨ad, rfl, hx0, hx1⟩ := at_T40 HX0.out k (by omega) (by omega)
        obtain ⟨bd, rfl, hy0, hy1⟩ := at_T40 HY0.out k (by omega) (by have := HL.out; omega)
        simp only [Int.toNat_natCast] at hx0 hx1 hy0 hy1
        replace hx0 := pw_cell_below HB.out hx0
        replace hx1 := pw_cell_below HB.out hx1
        replace hy0 := pw_cell_below HB.out hy0
        replace hy1 := pw_cell_below HB.out hy1
        have hn := neq40 (rd_T40 xs k).f0 (rd_T40 ys k).f0 (rd_T40 xs k).f1 (rd_T40 ys k).f1
        cases hs : sameB (rd_T40 xs k) (rd_T40 ys k)
        all_goals
          have Hs := Aside0.mk hs
          unfold sameB at hs
          simp only [hs] at hn
          clear hs
          go_wp2_with fail
          go_quiet (fail)
          go_wp2
        · go_ret
          exact ⟨⟨false, rfl, by simp; exact fun e => by rw [e] at Hs; exact absurd Hs.out (by simp [sameB])⟩, pw_below_drewN HB.out _⟩
        · go_roundw
          case rel => exact ⟨k + 1, by omega, by go_num, ⟨fun i h => by
            rcases Nat.lt_or_ge i k with h1 | h1
            · exact HF.out i h1
            · obtain rfl : i = k := by omega
              exact Hs.out⟩, ⟨pw_below_drewN HB.out _⟩⟩
          case measure => simp [intOf]; omega
      · obtain rfl : k = xs.length := by omega
        clear hlt
        go_wp2
        go_ret
        exact ⟨⟨true, rfl, by simp; exact same_all HL.out HF.out⟩, HB.out⟩
  · have HL := Aside0.mk hl
    have hd : decide ((xs.length : Int) ≠ (ys.length : Int)) = true := by simp; omega
    have hne : ¬ ((xs.length : Int) = (ys.length : Int)) := by omega
    go_enter Try.func55, Try.ntmps55
    go_wp2
    go_ret
    exact ⟨⟨false, rfl, by simp; exact fun e => HL.out (by rw [e])⟩, Below.refl _ _⟩
theorem cellsSame_calls (A B : Option Addr) (c d : Nat) (xs ys : List S40) (w : World) (HX : Kd.C k40 w A xs.length xs) (HY : Kd.C k40 w B ys.length ys) :
    Calls Try.prog 42 #[.slice A xs.length c, .slice B ys.length d] w (SamePost xs ys w) := by
  have HX0 := Aside0.mk HX
  have HY0 := Aside0.mk HY
  clear HX HY
  go_enter Try.func42, Try.ntmps42
  go_wp2_with fail
  refine (slicesEqual_calls A B c d xs ys _ HX0.out HY0.out).mono ?_
  rintro e w1 ⟨⟨b, rfl, h⟩, hb⟩
  go_wp2
  go_ret
  exact ⟨⟨b, rfl, h⟩, hb⟩
end Go.Proofs.Ytcnmefocbjilbaa.G
namespace Go.Proofs.Ytcnmefocbjilbaa.G
open Go.RowKit Go.Proofs.YtcnmefocbjilbaaW.PrintWords Go.Proofs.YtcnmefocbjilbaaW.PrintLast Go.Proofs.YtcnmefocbjilbaaW.PrintMore
open Go.Proofs.YtcnmefocbjilbaaFlat
set_option maxHeartbeats 1000000

def aggR (r : S34) (v : Value) : Value := .agg #[.int .i64 r.f0, .int .u8 r.f1, .int .i64 r.f2, .int .u64 r.f3, .bool r.f4, .string r.f5, v]
def alike (r s : S34) : Prop := r.f1 = s.f1 ∧ r.f2 = s.f2 ∧ r.f4 = s.f4 ∧ r.f5 = s.f5 ∧ r.f6 = s.f6
def AlikePost (r s : S34) (w : World) (e : Ending) (w' : World) : Prop := (∃ b, e = .returned (.bool b) ∧ (b = true ↔ alike r s)) ∧ Below w.heap.size w w'
theorem refSame_calls (A B : Option Addr) (c d : Nat) (r s : S34) (w : World) (HX : Kd.C k40 w A r.f6.length r.f6) (HY : Kd.C k40 w B s.f6.length s.f6) :
    Calls Try.prog 14 #[aggR r (.slice A r.f6.length c), aggR s (.slice B s.f6.length d)] w (AlikePost r s w) := by
  have HX0 := Aside0.mk HX
  have HY0 := Aside0.mk HY
  clear HX HY
  unfold aggR
  by_cases h1 : r.f1 = s.f1
  case neg =>
    have H1 := Aside0.mk h1
    have d1 : (r.f1 == s.f1) = false := beq_eq_false_iff_ne.mpr h1
    clear h1
    go_enter Try.func14, Try.ntmps14
    go_wp2_with fail
    go_ret
    exact ⟨⟨false, rfl, by simp only [Bool.false_eq_true, false_iff]; exact fun h => H1.out h.1⟩, below_alloc (below_alloc (Below.refl _ _) _) _⟩

  by_cases h2 : r.f2 = s.f2
  case neg =>
    have H2 := Aside0.mk h2
    have H1 := Aside0.mk h1
    have d1 : (r.f1 == s.f1) = true := beq_iff_eq.mpr h1
    have d2 : (r.f2 == s.f2) = false := beq_eq_false_iff_ne.mpr h2
    clear h1 h2
    go_enter Try.func14, Try.ntmps14
    go_wp2_with fail
    go_ret
    exact ⟨⟨false, rfl, by simp only [Bool.false_eq_true, false_iff]; exact fun h => H2.out h.2.1⟩, below_alloc (below_alloc (Below.refl _ _) _) _⟩

  by_cases h4 : r.f4 = s.f4
  case neg =>
    have H4 := Aside0.mk h4
    have H1 := Aside0.mk h1
    have H2 := Aside0.mk h2
    have d1 : (r.f1 == s.f1) = true := beq_iff_eq.mpr h1
    have d2 : (r.f2 == s.f2) = true := beq_iff_eq.mpr h2
    have d4 : (r.f4 == s.f4) = false := beq_eq_false_iff_ne.mpr h4
    clear h1 h2 h4
    go_enter Try.func14, Try.ntmps14
    go_wp2_with fail
    go_ret
    exact ⟨⟨false, rfl, by simp only [Bool.false_eq_true, false_iff]; exact fun h => H4.out h.2.2.1⟩, below_alloc (below_alloc (Below.refl _ _) _) _⟩

  by_cases h5 : r.f5.toList = s.f5.toList
  case neg =>
    have H4 := Aside0.mk h4
    have H1 := Aside0.mk h1
    have H2 := Aside0.mk h2
    have H5 := Aside0.mk h5
    have d1 : (r.f1 == s.f1) = true := beq_iff_eq.mpr h1
    have d2 : (r.f2 == s.f2) = true := beq_iff_eq.mpr h2
    have d4 : (r.f4 == s.f4) = true := beq_iff_eq.mpr h4
    have d5 : (r.f5.toList == s.f5.toList) = false := beq_eq_false_iff_ne.mpr h5
    clear h1 h2 h4 h5
    go_enter Try.func14, Try.ntmps14
    go_wp2_with fail
    go_ret
    exact ⟨⟨false, rfl, by simp only [Bool.false_eq_true, false_iff]; exact fun h => H5.out (by rw [h.2.2.2.1])⟩, below_alloc (below_alloc (Below.refl _ _) _) _⟩

  have H4 := Aside0.mk h4
  have H1 := Aside0.mk h1
  have H2 := Aside0.mk h2
  have H5 := Aside0.mk h5
  have d1 : (r.f1 == s.f1) = true := beq_iff_eq.mpr h1
  have d2 : (r.f2 == s.f2) = true := beq_iff_eq.mpr h2
  have d4 : (r.f4 == s.f4) = true := beq_iff_eq.mpr h4
  have d5 : (r.f5.toList == s.f5.toList) = true := beq_iff_eq.mpr h5
  clear h1 h2 h4 h5
  go_enter Try.func14, Try.ntmps14
  go_wp2_with fail
  refine (ref10_Same_calls A B c d r.f6 s.f6 _ (Kd.C_alloc (Kd.C_alloc HX0.out _) _) (Kd.C_alloc (Kd.C_alloc HY0.out _) _)).mono ?_
  rintro e w1 ⟨⟨b, rfl, h⟩, hb⟩
  go_wp2
  go_ret
  exact ⟨⟨b, rfl, h.trans ⟨fun h6 => ⟨H1.out, H2.out, H4.out, tl_inj H5.out, h6⟩, fun h6 => h6.2.2.2.2⟩⟩, (below_alloc (below_alloc (Below.refl _ _) _) _).trans (hb.mono (by simp; omega))⟩
theorem modelSame_calls (A B : Option Addr) (c d : Nat) (r s : S34) (w : World) (HX : Kd.C k40 w A r.f6.length r.f6) (HY : Kd.C k40 w B s.f6.length s.f6) :
    Calls Try.prog 15 #[aggR r (.slice A r.f6.length c), aggR s (.slice B s.f6.length d)] w (AlikePost r s w) := by
  have HX0 := Aside0.mk HX
  have HY0 := Aside0.mk HY
  clear HX HY
  unfold aggR
  by_cases h1 : r.f1 = s.f1
  case neg =>
    have H1 := Aside0.mk h1
    have d1 : (r.f1 == s.f1) = false := beq_eq_false_iff_ne.mpr h1
    clear h1
    go_enter Try.func15, Try.ntmps15
    go_wp2_with fail
    go_ret
    exact ⟨⟨false, rfl, by simp only [Bool.false_eq_true, false_iff]; exact fun h => H1.out h.1⟩, below_alloc (below_alloc (Below.refl _ _) _) _⟩

  by_cases h2 : r.f2 = s.f2
  case neg =>
    have H2 := Aside0.mk h2
    have H1 := Aside0.mk h1
    have d1 : (r.f1 == s.f1) = true := beq_iff_eq.mpr h1
    have d2 : (r.f2 == s.f2) = false := beq_eq_false_iff_ne.mpr h2
    clear h1 h2
    go_enter Try.func15, Try.ntmps15
    go_wp2_with fail
    go_ret
    exact ⟨⟨false, rfl, by simp only [Bool.false_eq_true, false_iff]; exact fun h => H2.out h.2.1⟩, below_alloc (below_alloc (Below.refl _ _) _) _⟩

  by_cases h4 : r.f4 = s.f4
  case neg =>
    have H4 := Aside0.mk h4
    have H1 := Aside0.mk h1
    have H2 := Aside0.mk h2
    have d1 : (r.f1 == s.f1) = true := beq_iff_eq.mpr h1
    have d2 : (r.f2 == s.f2) = true := beq_iff_eq.mpr h2
    have d4 : (r.f4 == s.f4) = false := beq_eq_false_iff_ne.mpr h4
    clear h1 h2 h4
    go_enter Try.func15, Try.ntmps15
    go_wp2_with fail
    go_ret
    exact ⟨⟨false, rfl, by simp only [Bool.false_eq_true, false_iff]; exact fun h => H4.out h.2.2.1⟩, below_alloc (below_alloc (Below.refl _ _) _) _⟩

  by_cases h5 : r.f5.toList = s.f5.toList
  case neg =>
    have H4 := Aside0.mk h4
    have H1 := Aside0.mk h1
    have H2 := Aside0.mk h2
    have H5 := Aside0.mk h5
    have d1 : (r.f1 == s.f1) = true := beq_iff_eq.mpr h1
    have d2 : (r.f2 == s.f2) = true := beq_iff_eq.mpr h2
    have d4 : (r.f4 == s.f4) = true := beq_iff_eq.mpr h4
    have d5 : (r.f5.toList == s.f5.toList) = false := beq_eq_false_iff_ne.mpr h5
    clear h1 h2 h4 h5
    go_enter Try.func15, Try.ntmps15
    go_wp2_with fail
    go_ret
    exact ⟨⟨false, rfl, by simp only [Bool.false_eq_true, false_iff]; exact fun h => H5.out (by rw [h.2.2.2.1])⟩, below_alloc (below_alloc (Below.refl _ _) _) _⟩

  have H4 := Aside0.mk h4
  have H1 := Aside0.mk h1
  have H2 := Aside0.mk h2
  have H5 := Aside0.mk h5
  have d1 : (r.f1 == s.f1) = true := beq_iff_eq.mpr h1
  have d2 : (r.f2 == s.f2) = true := beq_iff_eq.mpr h2
  have d4 : (r.f4 == s.f4) = true := beq_iff_eq.mpr h4
  have d5 : (r.f5.toList == s.f5.toList) = true := beq_iff_eq.mpr h5
  clear h1 h2 h4 h5
  go_enter Try.func15, Try.ntmps15
  go_wp2_with fail
  refine (cellsSame_calls A B c d r.f6 s.f6 _ (Kd.C_alloc (Kd.C_alloc HX0.out _) _) (Kd.C_alloc (Kd.C_alloc HY0.out _) _)).mono ?_
  rintro e w1 ⟨⟨b, rfl, h⟩, hb⟩
  go_wp2
  go_ret
  exact ⟨⟨b, rfl, h.trans ⟨fun h6 => ⟨H1.out, H2.out, H4.out, tl_inj H5.out, h6⟩, fun h6 => h6.2.2.2.2⟩⟩, (below_alloc (below_alloc (Below.refl _ _) _) _).trans (hb.mono (by simp; omega))⟩
end Go.Proofs.Ytcnmefocbjilbaa.G
namespace Go.Proofs.Ytcnmefocbjilbaa.G
open Go.RowKit Go.Proofs.YtcnmefocbjilbaaW.PrintWords Go.Proofs.YtcnmefocbjilbaaW.PrintLast Go.Proofs.YtcnmefocbjilbaaW.PrintMore
open Go.Proofs.YtcnmefocbjilbaaFlat
set_option maxHeartbeats 1000000

theorem refSpan_calls (f t : ByteArray) (e : Bool) (w : World) : Calls Try.prog 40 #[.agg #[.string f, .string t, .bool e]] w fun r w' => r = .returned (.bool (rangeB f t e)) ∧ Below w.heap.size w w' := by
  unfold rangeB
  by_cases h1 : f.size ≤ 513
  case neg =>
    have g1 : decide (513 < (f.size : Int)) = true := decide_eq_true (by omega)
    have g2 : 513 < f.size := by omega
    have g3 : decide (f.size ≤ 513) = false := decide_eq_false h1
    rw [g3, Bool.false_and, Bool.false_and]
    go_enter Try.func40, Try.ntmps40
    go_wp2
    go_ret
    exact ⟨by simp, (Below.refl _ _).alloc (Nat.le_refl _) _⟩
  by_cases h2 : t.size ≤ 513
  case neg =>
    have g1 : decide (513 < (f.size : Int)) = false := decide_eq_false (by omega)
    have g2 : decide (513 < (t.size : Int)) = true := decide_eq_true (by omega)
    have g3 : decide (t.size ≤ 513) = false := decide_eq_false h2
    rw [g3, Bool.and_false, Bool.false_and]
    go_enter Try.func40, Try.ntmps40
    go_wp2
    go_ret
    exact ⟨by simp, (Below.refl _ _).alloc (Nat.le_refl _) _⟩
  have g1 : decide (513 < (f.size : Int)) = false := decide_eq_false (by omega)
  have g2 : decide (513 < (t.size : Int)) = false := decide_eq_false (by omega)
  have g3 : decide (f.size ≤ 513) = true := decide_eq_true h1
  have g4 : decide (t.size ≤ 513) = true := decide_eq_true h2
  rw [g3, g4]
  cases e
  · go_enter Try.func40, Try.ntmps40
    go_wp2
    go_ret
    refine ⟨?_, (Below.refl _ _).alloc (Nat.le_refl _) _⟩
    cases t.toList <;> simp
  · go_enter Try.func40, Try.ntmps40
    go_wp2
    go_ret
    exact ⟨by simp, (Below.refl _ _).alloc (Nat.le_refl _) _⟩
theorem refHas_calls (f t : ByteArray) (e : Bool) (key : ByteArray) (w : World) : Calls Try.prog 41 #[.agg #[.string f, .string t, .bool e], .string key] w fun r w' => r = .returned (.bool (hasB f t e key)) ∧ Below w.heap.size w w' := by
  unfold hasB inB
  go_enter Try.func41, Try.ntmps41
  go_wp2_with fail
  refine (refSpan_calls f t e _).mono ?_
  rintro r w1 ⟨rfl, hb⟩
  have HB := Aside0.mk (((Below.refl w.heap.size w).alloc (Nat.le_refl _) (.cells #[.string f, .string t, .bool e] 24 (0, 0))).trans (hb.mono (by simp)))
  have c0 := pw_cell_below hb (cell_new2 w #[.string f, .string t, .bool e] 24 0 _ rfl)
  have c1 := pw_cell_below hb (cell_new2 w #[.string f, .string t, .bool e] 24 1 _ rfl)
  have c2 := pw_cell_below hb (cell_new2 w #[.string f, .string t, .bool e] 24 2 _ rfl)
  clear hb
  cases h : rangeB f t e
  · have h' := Aside0.mk h
    clear h
    go_wp2
    go_ret
    exact ⟨by rw [h'.out, Bool.false_and]; rfl, HB.out⟩
  · have h' := Aside0.mk h
    clear h
    have hq := leq_of (a := f.toList) (b := key.toList) rfl
    have HQ := Aside0.mk hq
    clear hq
    cases h2 : Op.bytesLess f.toList key.toList
    all_goals cases h3 : (f.toList == key.toList)
    all_goals cases e
    all_goals
      have h2' := Aside0.mk h2
      have h3' := Aside0.mk h3
      go_wp2
      go_ret
      exact ⟨by rw [h'.out, Bool.true_and, ← HQ.out, h2'.out, h3'.out]; simp, HB.out⟩
theorem refDelete_calls (A : Option Addr) (c : Nat) (l : List S40) (key : ByteArray) (w : World) (HR : Kd.C k40 w A l.length l) (hl : l.length < 4398046511103) (hr : rightB l = true) :
    Calls Try.prog 39 #[.slice A l.length c, .string key] w fun e w' => ∃ v, e = .returned (.tuple #[v, .int .i64 0]) ∧ Own w' w.heap.size v (l.filter (fun y => !isKey key y)) ∧ Below w.heap.size w w' := by
  have HR0 := Aside0.mk HR
  have HK := Aside0.mk hr
  clear HR hr
  go_enter Try.func39, Try.ntmps39
  go_wp2_with fail
  refine (ref10_Right_calls A c l _ HR0.out).mono ?_
  rintro e w1 ⟨he, hb⟩
  rw [HK.out] at he
  obtain rfl := he
  have HB0 := Aside0.mk hb
  clear hb
  go_wp2
  go_loopw [6, 7] (fun v6 v7 w' => ∃ k : Nat, k ≤ l.length ∧ v7 = .int .i64 k ∧ Aside0 (Own w' w.heap.size v6 ((l.take k).filter (fun y => !isKey key y))) ∧ Aside0 (Below w.heap.size w w')) (fun _ v7 _ => l.length - (intOf v7).toNat)
  case atStart => exact ⟨0, by omega, rfl, ⟨by simpa using Kd.R_nil k40 40 _ w.heap.size (fun _ => True)⟩, HB0⟩
  case round =>
    obtain ⟨k, hk, rfl, HO, HB⟩ := hrel
    by_cases hlt : k < l.length
    · obtain ⟨ad, rfl, hx0, hx1⟩ := at_T40 HR0.out k (by omega) (by omega)
      replace hx0 := pw_cell_below HB.out hx0
      replace hx1 := pw_cell_below HB.out hx1
      simp only [Int.toNat_natCast] at hx0 hx1
      have HSN := Aside0.mk (take_snoc40 l k hlt)
      cases hs : ((rd_T40 l k).f0.toList == key.toList)
      · have hs2 : ((rd_T40 l k).f0.toList != key.toList) = true := by simp [bne, hs]
        have Hs := Aside0.mk hs
        have hne : ¬ ((rd_T40 l k).f0.toList = key.toList) := beq_eq_false_iff_ne.mp hs
        have HF := Aside0.mk (show ((l.take k).filter (fun y => !isKey key y)).length < 4398046511103 by
          have h1 := List.length_filter_le (fun y => !isKey key y) (l.take k)
          have h2 := List.length_take_le k l
          omega)
        go_wp2_with (at_builtin; go_must (refine app1 (w0 := w) w.heap.size rfl (.tmp 24) (.tmp 29) rfl u6 ((l.take k).filter (fun y => !isKey key y)) (rd_T40 l k).f0 (rd_T40 l k).f1 rfl rfl HO.out HB.out HB.out.size HF.out ?_); intro v1 w3 h1 h2 h3)
        go_roundw
        case rel => exact ⟨k + 1, by omega, by go_num, ⟨by
          rw [HSN.out, List.filter_append, List.filter_cons_of_pos (by show (!((rd_T40 l k).f0.toList == key.toList)) = true; rw [Hs.out]; rfl), List.filter_nil]
          exact h1⟩, ⟨h2⟩⟩
        case measure => simp [intOf]; omega
      · have hs2 : ((rd_T40 l k).f0.toList != key.toList) = false := by simp [bne, hs]
        have Hs := Aside0.mk hs
        go_wp2
        go_roundw
        case rel => exact ⟨k + 1, by omega, by go_num, ⟨by
          rw [HSN.out, List.filter_append, List.filter_cons_of_neg (by show ¬ (!((rd_T40 l k).f0.toList == key.toList)) = true; rw [Hs.out]; simp), List.filter_nil, List.append_nil]
          exact HO.out⟩, HB⟩
        case measure => simp [intOf]; omega
    · obtain rfl : k = l.length := by omega
      clear hlt
      go_wp2
      go_ret2
      exact ⟨_, rfl, by rw [← List.take_length (l := l)]; simpa using HO.out, HB.out⟩
end Go.Proofs.Ytcnmefocbjilbaa.G
namespace Go.Proofs.Ytcnmefocbjilbaa.G
open Go.RowKit Go.Proofs.YtcnmefocbjilbaaW.PrintWords Go.Proofs.YtcnmefocbjilbaaW.PrintLast Go.Proofs.YtcnmefocbjilbaaW.PrintMore
open Go.Proofs.YtcnmefocbjilbaaFlat
set_option maxHeartbeats 1000000
set_option maxRecDepth 20000

theorem gtr_less (t : TypeId) (a b : ByteArray) : binOp .gtr t (.string a) (.string b) = pure (.bool (Op.bytesLess b.toList a.toList)) := by rw [binOp_string_gtr, leq_of rfl, Bool.not_not]
attribute [-go_sem] binOp_string_gtr
attribute [local go_sem] gtr_less
def RefPutPost (l : List S40) (c : S40) (w : World) (e : Ending) (w' : World) : Prop := ∃ v, e = .returned (.tuple #[v, .int .i64 0]) ∧ Own w' w.heap.size v (putS l c) ∧ Below w.heap.size w w'
theorem flen {l : List S40} (f : S40 → Bool) (k : Nat) : ((l.take k).filter f).length ≤ l.length := by
  have h1 := List.length_filter_le f (l.take k)
  have h2 := List.length_take_le k l
  rw [List.length_take] at h1
  omega
theorem refPut_calls (A : Option Addr) (c : Nat) (l : List S40) (p q : ByteArray) (w : World) (HR : Kd.C k40 w A l.length l) (hl : l.length < 2199023255551) (hok : putOk l ⟨p, q⟩ = true) :
    Calls Try.prog 38 #[.slice A l.length c, .agg #[.string p, .string q]] w (RefPutPost l ⟨p, q⟩ w) := by
  have HR0 := Aside0.mk HR
  unfold putOk at hok
  rw [Bool.and_eq_true] at hok
  have HK := Aside0.mk hok.1
  have HK2 := Aside0.mk hok.2
  clear HR hok
  go_enter Try.func38, Try.ntmps38
  go_wp2_with fail
  have b1 := below_alloc (Below.refl w.heap.size w) (.cells #[.string p, .string q] 40 (0, 0))
  refine (ref10_Right_calls A c l _ (Kd.C_below HR0.out b1)).mono ?_
  rintro e w1 ⟨he, hb⟩
  rw [HK.out] at he
  obtain rfl := he
  have c0 := pw_cell_below hb (cell_new2 w #[.string p, .string q] 40 0 _ rfl)
  have c1 := pw_cell_below hb (cell_new2 w #[.string p, .string q] 40 1 _ rfl)
  have HB1 := Aside0.mk (b1.trans (hb.mono b1.size))
  have hgs : w.heap.size < w1.heap.size := by have := hb.size; simp at this; omega
  clear hb b1
  go_wp2_with fail
  refine (fits_is p q true _ HK2.out).mono ?_
  rintro e w2 ⟨rfl, hb⟩
  replace c0 := pw_cell_below hb c0
  replace c1 := pw_cell_below hb c1
  have HB2 := Aside0.mk (HB1.out.trans (hb.mono HB1.out.size))
  have hg2 : w.heap.size < w2.heap.size := by have := hb.size; omega
  clear hb hgs HB1
  have C0 := Aside0.mk c0
  have C1 := Aside0.mk c1
  have HR2 := Aside0.mk (Kd.C_below HR0.out HB2.out)
  clear c0 c1
  go_wp2
  go_loopw [6, 7] (fun v6 v7 w' => ∃ k : Nat, k ≤ l.length ∧ v7 = .int .i64 k ∧ Aside0 (Own w' w2.heap.size v6 ((l.take k).filter (fun x => lessC x ⟨p, q⟩))) ∧ Aside0 (Below w2.heap.size w2 w')) (fun _ v7 _ => l.length - (intOf v7).toNat)
  case atStart => exact ⟨0, by omega, rfl, ⟨by simpa using Kd.R_nil k40 40 w2 w2.heap.size (fun _ => True)⟩, ⟨Below.refl _ _⟩⟩
  case round =>
    obtain ⟨k, hk, rfl, HO, HB⟩ := hrel
    by_cases hlt : k < l.length
    · obtain ⟨ad, rfl, hx0, hx1⟩ := at_T40 HR2.out k (by omega) (by omega)
      simp only [Int.toNat_natCast] at hx0 hx1
      have X0 := Aside0.mk hx0
      have X1 := Aside0.mk hx1
      clear hx0 hx1
      have HSN := Aside0.mk (take_snoc40 l k hlt)
      cases hs : (Op.bytesLess (rd_T40 l k).f0.toList p.toList)
      · have Hs := Aside0.mk hs
        go_wp2_with fail
        refine wp_region_flat (fun w' => Own w' w2.heap.size u6 ((l.take k).filter (fun x => lessC x ⟨p, q⟩)) ∧ Below w2.heap.size w2 w') (by kernel_rfl) (by kernel_rfl) ⟨Kd.R_drew HO.out, below_drew HB.out⟩ ?_
        repeat
          (apply Flat.cons
           · intro w' hS
             obtain ⟨q1, q2⟩ := hS
             have Q1 := Aside0.mk q1
             have Q2 := Aside0.mk q2
             have s0 := pw_cell_below q2 C0.out
             have x0 := pw_cell_below q2 X0.out
             clear q1 q2
             go_wp2_with fail
             exact flat_end rfl ⟨Q1.out, Q2.out⟩
           · exact rfl)
        refine Flat.nil fun W2 hS => ?_
        have HO2 := Aside0.mk hS.1
        have HB2 := Aside0.mk hS.2
        have x0 := pw_cell_below hS.2 X0.out
        have x1 := pw_cell_below hS.2 X1.out
        clear hS
        go_wp2_with fail
        go_roundw
        case rel => exact ⟨k + 1, by omega, by go_num, ⟨by
          rw [HSN.out, List.filter_append, List.filter_cons_of_neg (by show ¬ (Op.bytesLess (rd_T40 l k).f0.toList p.toList) = true; rw [Hs.out]; simp), List.filter_nil, List.append_nil]
          exact HO2.out⟩, HB2⟩
        case measure => simp [intOf]; omega
      · have Hs := Aside0.mk hs
        have HF := Aside0.mk (show ((l.take k).filter (fun x => lessC x ⟨p, q⟩)).length < 4398046511103 by
          have := flen (l := l) (fun x => lessC x ⟨p, q⟩) k; omega)
        go_wp2_with fail
        refine wp_region_flat (fun w' => Own w' w2.heap.size u6 ((l.take k).filter (fun x => lessC x ⟨p, q⟩)) ∧ Below w2.heap.size w2 w') (by kernel_rfl) (by kernel_rfl) ⟨Kd.R_drew HO.out, below_drew HB.out⟩ ?_
        repeat
          (apply Flat.cons
           · intro w' hS
             obtain ⟨q1, q2⟩ := hS
             have Q1 := Aside0.mk q1
             have Q2 := Aside0.mk q2
             have s0 := pw_cell_below q2 C0.out
             have x0 := pw_cell_below q2 X0.out
             clear q1 q2
             go_wp2_with fail
             exact flat_end rfl ⟨Q1.out, Q2.out⟩
           · exact rfl)
        refine Flat.nil fun W2 hS => ?_
        have HO2 := Aside0.mk hS.1
        have HB2 := Aside0.mk hS.2
        have x0 := pw_cell_below hS.2 X0.out
        have x1 := pw_cell_below hS.2 X1.out
        clear hS
        go_wp2_with (at_builtin; go_must (refine app1 (w0 := w2) w2.heap.size rfl (.tmp 31) (.tmp 36) rfl u6 ((l.take k).filter (fun x => lessC x ⟨p, q⟩)) (rd_T40 l k).f0 (rd_T40 l k).f1 rfl rfl HO2.out HB2.out HB2.out.size HF.out ?_); intro v1 w3 h1 h2 h3)
        go_roundw
        case rel => exact ⟨k + 1, by omega, by go_num, ⟨by
          rw [HSN.out, List.filter_append, List.filter_cons_of_pos (by show (Op.bytesLess (rd_T40 l k).f0.toList p.toList) = true; exact Hs.out), List.filter_nil]
          exact h1⟩, ⟨h2⟩⟩
        case measure => simp [intOf]; omega
    · obtain rfl : k = l.length := by omega
      clear hlt
      have HE := Aside0.mk (show Own wr w2.heap.size u6 (l.filter (fun x => lessC x ⟨p, q⟩)) by
        have h := HO.out
        rw [List.take_length] at h
        exact h)
      have s0 := pw_cell_below HB.out C0.out
      have s1 := pw_cell_below HB.out C1.out
      have HF := Aside0.mk (show (l.filter (fun x => lessC x ⟨p, q⟩)).length < 4398046511103 by
        have h2 := List.length_filter_le (fun x => lessC x ⟨p, q⟩) l
        omega)
      go_wp2_with (at_builtin; go_must (refine app1 (w0 := w2) w2.heap.size rfl (.tmp 38) (.tmp 40) rfl u6 (l.filter (fun x => lessC x ⟨p, q⟩)) p q rfl rfl HE.out HB.out HB.out.size HF.out ?_); intro v9 w9 g1 g2 g3)
      go_loopw [6, 8] (fun v6 v7 w' => ∃ k : Nat, k ≤ l.length ∧ v7 = .int .i64 k ∧ Aside0 (Own w' w2.heap.size v6 ((l.filter (fun x => lessC x ⟨p, q⟩) ++ [(⟨p, q⟩ : S40)]) ++ (l.take k).filter (fun x => lessC ⟨p, q⟩ x))) ∧ Aside0 (Below w2.heap.size w2 w')) (fun _ v7 _ => l.length - (intOf v7).toNat)
      case atStart => exact ⟨0, by omega, rfl, ⟨by simpa using g1⟩, ⟨g2⟩⟩
      case round =>
        obtain ⟨k, hk, rfl, HO, HB⟩ := hrel
        by_cases hlt : k < l.length
        · obtain ⟨ad, rfl, hx0, hx1⟩ := at_T40 HR2.out k (by omega) (by omega)
          simp only [Int.toNat_natCast] at hx0 hx1
          have X0 := Aside0.mk hx0
          have X1 := Aside0.mk hx1
          clear hx0 hx1
          have HSN := Aside0.mk (take_snoc40 l k hlt)
          cases hs : (Op.bytesLess p.toList (rd_T40 l k).f0.toList)
          · have Hs := Aside0.mk hs
            go_wp2_with fail
            refine wp_region_flat (fun w' => Own w' w2.heap.size u6 ((l.filter (fun x => lessC x ⟨p, q⟩) ++ [(⟨p, q⟩ : S40)]) ++ (l.take k).filter (fun x => lessC ⟨p, q⟩ x)) ∧ Below w2.heap.size w2 w') (by kernel_rfl) (by kernel_rfl) ⟨Kd.R_drew HO.out, below_drew HB.out⟩ ?_
            repeat
              (apply Flat.cons
               · intro w' hS
                 obtain ⟨q1, q2⟩ := hS
                 have Q1 := Aside0.mk q1
                 have Q2 := Aside0.mk q2
                 have s0 := pw_cell_below q2 C0.out
                 have x0 := pw_cell_below q2 X0.out
                 clear q1 q2
                 go_wp2_with fail
                 exact flat_end rfl ⟨Q1.out, Q2.out⟩
               · exact rfl)
            refine Flat.nil fun W2 hS => ?_
            have HO2 := Aside0.mk hS.1
            have HB2 := Aside0.mk hS.2
            have x0 := pw_cell_below hS.2 X0.out
            have x1 := pw_cell_below hS.2 X1.out
            clear hS
            go_wp2_with fail
            go_roundw
            case rel => exact ⟨k + 1, by omega, by go_num, ⟨by
              rw [HSN.out, List.filter_append, List.filter_cons_of_neg (by show ¬ (Op.bytesLess p.toList (rd_T40 l k).f0.toList) = true; rw [Hs.out]; simp), List.filter_nil, List.append_nil]
              exact HO2.out⟩, HB2⟩
            case measure => simp [intOf]; omega
          · have Hs := Aside0.mk hs
            have HF := Aside0.mk (show (((l.filter (fun x => lessC x ⟨p, q⟩) ++ [(⟨p, q⟩ : S40)]) ++ (l.take k).filter (fun x => lessC ⟨p, q⟩ x)) : List S40).length < 4398046511103 by
              have h1 := flen (l := l) (fun x => lessC ⟨p, q⟩ x) k; have h2 := List.length_filter_le (fun x => lessC x ⟨p, q⟩) l; simp only [List.length_append, List.length_cons, List.length_nil] at h1 ⊢; omega)
            go_wp2_with fail
            refine wp_region_flat (fun w' => Own w' w2.heap.size u6 ((l.filter (fun x => lessC x ⟨p, q⟩) ++ [(⟨p, q⟩ : S40)]) ++ (l.take k).filter (fun x => lessC ⟨p, q⟩ x)) ∧ Below w2.heap.size w2 w') (by kernel_rfl) (by kernel_rfl) ⟨Kd.R_drew HO.out, below_drew HB.out⟩ ?_
            repeat
              (apply Flat.cons
               · intro w' hS
                 obtain ⟨q1, q2⟩ := hS
                 have Q1 := Aside0.mk q1
                 have Q2 := Aside0.mk q2
                 have s0 := pw_cell_below q2 C0.out
                 have x0 := pw_cell_below q2 X0.out
                 clear q1 q2
                 go_wp2_with fail
                 exact flat_end rfl ⟨Q1.out, Q2.out⟩
               · exact rfl)
            refine Flat.nil fun W2 hS => ?_
            have HO2 := Aside0.mk hS.1
            have HB2 := Aside0.mk hS.2
            have x0 := pw_cell_below hS.2 X0.out
            have x1 := pw_cell_below hS.2 X1.out
            clear hS
            go_wp2_with (at_builtin; go_must (refine app1 (w0 := w2) w2.heap.size rfl (.tmp 56) (.tmp 61) rfl u6 ((l.filter (fun x => lessC x ⟨p, q⟩) ++ [(⟨p, q⟩ : S40)]) ++ (l.take k).filter (fun x => lessC ⟨p, q⟩ x)) (rd_T40 l k).f0 (rd_T40 l k).f1 rfl rfl HO2.out HB2.out HB2.out.size HF.out ?_); intro v1 w3 h1 h2 h3)
            go_roundw
            case rel => exact ⟨k + 1, by omega, by go_num, ⟨by
              rw [HSN.out, List.filter_append, List.filter_cons_of_pos (by show (Op.bytesLess p.toList (rd_T40 l k).f0.toList) = true; exact Hs.out), List.filter_nil, ← List.append_assoc]
              exact h1⟩, ⟨h2⟩⟩
            case measure => simp [intOf]; omega
        · obtain rfl : k = l.length := by omega
          clear hlt
          go_wp2
          go_ret2
          refine ⟨_, rfl, ?_, HB2.out.trans (HB.out.mono HB2.out.size)⟩
          unfold putS
          have h := HO.out
          rw [List.take_length] at h
          exact Kd.R_lower h HB2.out.size
end Go.Proofs.Ytcnmefocbjilbaa.G
