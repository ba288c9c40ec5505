/- Part of the seat's claims: lockkeeperlaw30.ModelSerial answers true for every row of cells, every rows of calls and every number (no condition). -/
import Derived.Test.YtcnmefocbjilbaaM5
import Derived.Test.YtcnmefocbjilbaaM3
import Derived.StillTailTactics
import Derived.Test.YtcnmefocbjilbaaRows
import Derived.WalkKit
import Derived.ProofKit
import Derived.OpenShut
import Derived.ShutString
import Derived.ChangeOld
import Derived.Below
import Derived.SizedLaws
set_option linter.unusedVariables false
set_option linter.unusedSimpArgs false
namespace Go.Proofs.Ytcnmefocbjilbaa.G
open Go.RowKit Go.Proofs.YtcnmefocbjilbaaW.PrintWords Go.Proofs.YtcnmefocbjilbaaW.PrintLast Go.Proofs.YtcnmefocbjilbaaW.PrintMore
open Go.Proofs.YtcnmefocbjilbaaFlat
set_option maxHeartbeats 2000000
set_option maxRecDepth 20000

/-! ### deeds of one's own: the calls' row is told by its value alone -/
structure SD where
  tx : Int
  cl : Option Addr × Nat × Nat
  rp : List S34
def zD : SD := ⟨0, (none, 0, 0), []⟩
def kSl : Kd (Option Addr × Nat × Nat) := Kd.scalar (fun t => Value.slice t.1 t.2.1 t.2.2) (fun _ => rfl)
def kD : Kd SD := Kd.iso (Kd.pair (Kd.int .u64) (Kd.pair kSl (Kd.slice 34 k34c))) (fun x : SD => (x.tx, x.cl, x.rp))
theorem info50 : (Try.prog.info? 50).map (fun i => (i.zero, i.size, i.bytes)) = some (some (.agg #[(.int .u64 0), (.slice none 0 0), (.slice none 0 0)]), 3, 56) := by kernel_rfl
theorem kD_open {w : World} {x : SD} {cs : List Value} (h : kD.K w x cs) : ∃ A c, cs = [.int .u64 x.tx, .slice x.cl.1 x.cl.2.1 x.cl.2.2, .slice A x.rp.length c] ∧ x.rp.length ≤ c ∧ k34c.C w A x.rp.length x.rp := by
  obtain ⟨_, _, rfl, rfl, _, _, rfl, rfl, A, c, rfl, h1, h2⟩ := h
  exact ⟨A, c, rfl, h1, h2⟩
theorem kD_openM {w : World} {base : Nat} {ok : Nat → Prop} {x : SD} {cs : List Value} (h : kD.M w base ok x cs) : ∃ v, cs = [.int .u64 x.tx, .slice x.cl.1 x.cl.2.1 x.cl.2.2, v] ∧ k34c.R 34 w base ok v x.rp := by
  obtain ⟨_, _, rfl, rfl, _, _, rfl, rfl, v, rfl, h1⟩ := h
  exact ⟨v, rfl, h1⟩
theorem kD_mkM (w : World) (base : Nat) (ok : Nat → Prop) (x : SD) {v : Value} (h : k34c.R 34 w base ok v x.rp) : kD.M w base ok x [.int .u64 x.tx, .slice x.cl.1 x.cl.2.1 x.cl.2.2, v] :=
  ⟨[.int .u64 x.tx], _, rfl, rfl, [.slice x.cl.1 x.cl.2.1 x.cl.2.2], _, rfl, rfl, v, rfl, h⟩
def rdD (xs : List SD) (j : Nat) : SD := xs.getD j zD
/-- How deeds stand for what the document calls deeds: the calls' rows are those of the world w. -/
def Rel (w : World) (xs : List SD) (ds : List S50) : Prop :=
  xs.length = ds.length ∧ ∀ j : Nat, j < xs.length → (rdD xs j).tx = (rd_T50 ds j).f0 ∧ (rdD xs j).rp = (rd_T50 ds j).f2 ∧ (rdD xs j).cl.2.1 = (rd_T50 ds j).f1.length ∧ (rd_T50 ds j).f1.length ≤ (rdD xs j).cl.2.2 ∧ Kd.C k26 w (rdD xs j).cl.1 (rd_T50 ds j).f1.length (rd_T50 ds j).f1
theorem rel_nil (w : World) : Rel w [] [] := ⟨rfl, fun j h => absurd h (by simp)⟩
theorem rdD_snoc (xs : List SD) (x : SD) (j : Nat) : rdD (xs ++ [x]) j = if j < xs.length then rdD xs j else if j = xs.length then x else zD := by
  unfold rdD
  simp only [List.getD_eq_getElem?_getD]
  by_cases h : j < xs.length
  · rw [if_pos h, List.getElem?_append_left h]
  · rw [if_neg h, List.getElem?_append_right (by omega)]
    by_cases e : j = xs.length
    · subst e; simp
    · rw [if_neg e, List.getElem?_eq_none (by simp; omega)]; rfl
theorem rd50_snoc (xs : List S50) (x : S50) (j : Nat) : rd_T50 (xs ++ [x]) (j : Int) = if j < xs.length then rd_T50 xs j else if j = xs.length then x else z50 := by
  unfold rd_T50
  simp only [List.getD_eq_getElem?_getD, Int.toNat_natCast]
  by_cases h : j < xs.length
  · rw [if_pos h, List.getElem?_append_left h]
  · rw [if_neg h, List.getElem?_append_right (by omega)]
    by_cases e : j = xs.length
    · subst e; simp
    · rw [if_neg e, List.getElem?_eq_none (by simp; omega)]; rfl
theorem rel_snoc {w : World} {xs : List SD} {ds : List S50} (h : Rel w xs ds) (x : SD) (d : S50) (h0 : x.tx = d.f0) (h1 : x.rp = d.f2) (h2 : x.cl.2.1 = d.f1.length) (h3 : d.f1.length ≤ x.cl.2.2) (h4 : Kd.C k26 w x.cl.1 d.f1.length d.f1) : Rel w (xs ++ [x]) (ds ++ [d]) := by
  refine ⟨by simp [h.1], fun j hj => ?_⟩
  rw [List.length_append, List.length_singleton] at hj
  rw [rdD_snoc, rd50_snoc, ← h.1]
  by_cases hlt : j < xs.length
  · rw [if_pos hlt, if_pos hlt]
    exact h.2 j hlt
  · obtain rfl : j = xs.length := by omega
    rw [if_neg hlt, if_pos rfl, if_neg hlt, if_pos rfl]
    exact ⟨h0, h1, h2, h3, h4⟩
/-- Deeds of one's own read as deeds. -/
theorem rel_C {w W : World} {A : Option Addr} {xs : List SD} {ds : List S50} (h : Rel w xs ds) (hC : Kd.C kD W A xs.length xs) (hb : Below w.heap.size w W) : Kd.C k50 W A ds.length ds := by
  obtain ⟨_, h2, h3⟩ := hC
  refine ⟨rfl, by rw [← h.1]; exact h2, fun hn => ?_⟩
  obtain ⟨ad, e, hc⟩ := h3 (by rw [h.1]; exact hn)
  refine ⟨ad, e, fun j p hj => ?_⟩
  have hjl : j < xs.length := by rw [h.1]; exact (List.getElem?_eq_some_iff.1 hj).1
  obtain ⟨c, hcl, hK, hcell⟩ := hc j _ (List.getElem?_eq_getElem hjl)
  have e1 : rdD xs j = xs[j] := by simp [rdD, hjl]
  have e2 : rd_T50 ds j = p := by simp [rd_T50, hj]
  obtain ⟨r0, r1, r2, r3, r4⟩ := h.2 j hjl
  rw [e1, e2] at r0 r1 r2 r4
  rw [e1, e2] at r3
  obtain ⟨A2, c2, rfl, l2, g2⟩ := kD_open hK
  rw [r0, r2, r1] at hcell
  rw [r1] at l2 g2
  exact ⟨_, rfl, k50_mk W p r3 (Kd.C_below r4 hb) l2 (k34c_C g2), hcell⟩

/-! ### the deeds that Run makes: the plain law -/
def nowC (l : List S40) (cs : List (List S26)) (k : Nat) : List S40 := (cs.take k).foldl (fun n x => (runS n x).1) l
def deedC (l : List S40) (cs : List (List S26)) (j : Nat) : S50 := ⟨(j : Int) + 1, rd_L11 cs j, (runS (nowC l cs j) (rd_L11 cs j)).2⟩
def deedsC (l : List S40) (cs : List (List S26)) (n : Nat) : List S50 := (List.range n).map (deedC l cs)
theorem deeds_len (l : List S40) (cs : List (List S26)) (n : Nat) : (deedsC l cs n).length = n := by simp [deedsC]
theorem deeds_rd (l : List S40) (cs : List (List S26)) (n j : Nat) (h : j < n) : rd_T50 (deedsC l cs n) j = deedC l cs j := by simp [rd_T50, deedsC, h]
theorem deeds_succ (l : List S40) (cs : List (List S26)) (n : Nat) : deedsC l cs (n + 1) = deedsC l cs n ++ [deedC l cs n] := by simp [deedsC, List.range_succ]
theorem nowC_succ (l : List S40) (cs : List (List S26)) (k : Nat) (h : k < cs.length) : nowC l cs (k + 1) = (runS (nowC l cs k) (rd_L11 cs k)).1 := by
  have e : rd_L11 cs k = cs[k] := by simp [rd_L11, h]
  unfold nowC
  rw [List.take_succ_eq_append_getElem h, List.foldl_append, e]
  rfl
theorem nowC_len {l : List S40} {cs : List (List S26)} (hc : ∀ j : Nat, j < cs.length → (rd_L11 cs j).length ≤ 20) (hl : l.length ≤ 40) : ∀ k, k ≤ cs.length → (nowC l cs k).length ≤ 40 + 20 * k := by
  intro k
  induction k with
  | zero => intro _; simpa [nowC] using hl
  | succ k ih =>
    intro hk
    rw [nowC_succ l cs k (by omega)]
    have h1 := ih (by omega)
    have h2 := hc k (by omega)
    have h3 := (runS_len (nowC l cs k) (rd_L11 cs k)).1
    omega
/-- Deeds with those calls pass through those maps. -/
theorem now_is {l : List S40} {cs : List (List S26)} {ds : List S50} (hl : ds.length = cs.length) (h : ∀ j : Nat, j < cs.length → (rd_T50 ds j).f1 = rd_L11 cs j) : ∀ k, k ≤ cs.length → nowAt l ds k = nowC l cs k := by
  intro k
  induction k with
  | zero => intro _; rfl
  | succ k ih =>
    intro hk
    rw [nowAt_succ l ds k (by omega), nowC_succ l cs k (by omega), ih (by omega), h k (by omega)]
theorem alikeAll_refl (xs : List S34) : alikeAll xs xs := ⟨rfl, fun _ _ => ⟨rfl, rfl, rfl, rfl, rfl⟩⟩
theorem serial_all {l : List S40} {cs : List (List S26)} {m : List S40} {n : Nat} (hr : rightB l = true) (h : SerialS l (deedsC l cs cs.length) m n) : m = nowC l cs cs.length ∧ n = cs.length := by
  have hd := deeds_len l cs cs.length
  have hf : ∀ j : Nat, j < cs.length → (rd_T50 (deedsC l cs cs.length) j).f1 = rd_L11 cs j := fun j hj => by rw [deeds_rd l cs _ j hj]; rfl
  have hn := now_is (l := l) hd hf
  have h2 : SerialS l (deedsC l cs cs.length) (nowAt l (deedsC l cs cs.length) cs.length) cs.length := by
    refine .inr ⟨hr, by omega, fun j hj => ?_, fun hj => absurd hj (by omega), rfl⟩
    unfold fitsAt
    rw [hn j (by omega), deeds_rd l cs _ j hj]
    exact alikeAll_refl _
  have := serial_one h h2
  rw [hn cs.length (Nat.le_refl _)] at this
  exact this
/-- One reply of deed k is another. -/
def turnAt (r : List S34) (i : Nat) (z : ByteArray) : List S34 := r.set i ⟨(rd_T34 r i).f0, (rd_T34 r i).f1, (rd_T34 r i).f2, (rd_T34 r i).f3, (rd_T34 r i).f4, z, (rd_T34 r i).f6⟩
def turnD (ds : List S50) (k i : Nat) (z : ByteArray) : List S50 := ds.set k ⟨(rd_T50 ds k).f0, (rd_T50 ds k).f1, turnAt (rd_T50 ds k).f2 i z⟩
theorem rd50_set (ds : List S50) (k j : Nat) (x : S50) (h : k < ds.length) : rd_T50 (ds.set k x) (j : Int) = if j = k then x else rd_T50 ds j := by
  unfold rd_T50
  simp only [List.getD_eq_getElem?_getD, Int.toNat_natCast, List.getElem?_set]
  by_cases e : j = k
  · subst e; simp [h]
  · rw [if_neg (fun e2 => e e2.symm), if_neg e]
theorem rdD_set (xs : List SD) (k j : Nat) (x : SD) (h : k < xs.length) : rdD (xs.set k x) j = if j = k then x else rdD xs j := by
  unfold rdD
  simp only [List.getD_eq_getElem?_getD, List.getElem?_set]
  by_cases e : j = k
  · subst e; simp [h]
  · rw [if_neg (fun e2 => e e2.symm), if_neg e]
theorem serial_cut {l : List S40} {cs : List (List S26)} {m : List S40} {n k i : Nat} {z : ByteArray} (hr : rightB l = true) (hk : k < cs.length) (hi : i < (rd_T50 (deedsC l cs cs.length) k).f2.length) (hz : (rd_T34 (rd_T50 (deedsC l cs cs.length) k).f2 i).f5 ≠ z)
    (h : SerialS l (turnD (deedsC l cs cs.length) k i z) m n) : n = k := by
  have hd : (turnD (deedsC l cs cs.length) k i z).length = cs.length := by unfold turnD; rw [List.length_set, deeds_len]
  have hkd : k < (deedsC l cs cs.length).length := by rw [deeds_len]; exact hk
  have hrd : ∀ j : Nat, rd_T50 (turnD (deedsC l cs cs.length) k i z) (j : Int) = if j = k then ⟨(rd_T50 (deedsC l cs cs.length) k).f0, (rd_T50 (deedsC l cs cs.length) k).f1, turnAt (rd_T50 (deedsC l cs cs.length) k).f2 i z⟩ else rd_T50 (deedsC l cs cs.length) j := fun j => rd50_set _ k j _ hkd
  have hf : ∀ j : Nat, j < cs.length → (rd_T50 (turnD (deedsC l cs cs.length) k i z) j).f1 = rd_L11 cs j := by
    intro j hj
    rw [hrd j]
    by_cases e : j = k
    · subst e
      rw [if_pos rfl, deeds_rd l cs _ j hj]
      rfl
    · rw [if_neg e, deeds_rd l cs _ j hj]
      rfl
  have hn := now_is (l := l) hd hf
  have h2 : SerialS l (turnD (deedsC l cs cs.length) k i z) (nowAt l (turnD (deedsC l cs cs.length) k i z) k) k := by
    refine .inr ⟨hr, by omega, fun j hj => ?_, fun _ ha => ?_, rfl⟩
    · unfold fitsAt
      rw [hn j (by omega), hrd j, if_neg (by omega), deeds_rd l cs _ j (by omega)]
      exact alikeAll_refl _
    · unfold fitsAt at ha
      rw [hn k (by omega), hrd k, if_pos rfl] at ha
      rw [deeds_rd l cs _ k hk] at ha hz hi
      simp only [deedC] at ha hz hi
      have h3 := (ha.2 i hi).2.2.2.1
      apply hz
      rw [h3]
      unfold turnAt
      simp [rd_T34, hi]
  exact (serial_one h h2).2
theorem rel_turn {w : World} {xs : List SD} {ds : List S50} (h : Rel w xs ds) (k i : Nat) (z : ByteArray) (hk : k < xs.length) : Rel w (xs.set k ⟨(rdD xs k).tx, (rdD xs k).cl, turnAt (rdD xs k).rp i z⟩) (turnD ds k i z) := by
  have hkd : k < ds.length := by rw [← h.1]; exact hk
  refine ⟨by unfold turnD; rw [List.length_set, List.length_set]; exact h.1, fun j hj => ?_⟩
  rw [List.length_set] at hj
  unfold turnD
  rw [rdD_set xs k j _ hk, rd50_set ds k j _ hkd]
  by_cases e : j = k
  · subst e
    rw [if_pos rfl, if_pos rfl]
    obtain ⟨r0, r1, r2, r3, r4⟩ := h.2 j hj
    exact ⟨r0, by rw [r1], r2, r3, r4⟩
  · rw [if_neg e, if_neg e]
    exact h.2 j hj
/-! ### a reply's value is no longer than a cell's -/
theorem doS_f5 (l : List S40) (x : S26) : (doS l x).2.f5.size ≤ 2048 := by
  have hz : (⟨#[]⟩ : ByteArray).size ≤ 2048 := by decide
  unfold doS
  split
  · exact hz
  · rename_i hr
    have hr' : rightB l = true := by simpa using hr
    split
    · exact hz
    · split
      · show ((findV l x.f1).getD ⟨#[]⟩).size ≤ 2048
        cases hf : findV l x.f1 with
        | none => exact hz
        | some v =>
          have h1 := (findV_iff hr' x.f1 v).1 hf
          have h2 := ((right_iff l).1 hr').1 _ h1
          unfold fitsB at h2
          simp only [Bool.and_eq_true, decide_eq_true_eq] at h2
          exact h2.2
      · repeat (first | exact hz | split)
theorem fold_f5 (xs : List S26) : ∀ s : List S40 × List S34, (∀ r ∈ s.2, r.f5.size ≤ 2048) → ∀ r ∈ (xs.foldl stepR s).2, r.f5.size ≤ 2048 := by
  induction xs with
  | nil => intro s h; exact h
  | cons x xs ih =>
    intro s h
    rw [List.foldl_cons]
    refine ih _ fun r hr => ?_
    unfold stepR at hr
    rcases List.mem_append.1 hr with hr | hr
    · exact h r hr
    · rw [List.mem_singleton] at hr
      rw [hr]
      exact doS_f5 _ _
theorem runS_f5 (l : List S40) (xs : List S26) : ∀ r ∈ (runS l xs).2, r.f5.size ≤ 2048 := by
  unfold runS
  split
  · exact fold_f5 xs (l, []) (by simp)
  · intro r hr
    obtain ⟨x, _, rfl⟩ := List.mem_map.1 hr
    show (⟨#[]⟩ : ByteArray).size ≤ 2048
    decide
theorem deed_f5 (l : List S40) (cs : List (List S26)) (n j i : Nat) (h : j < n) (hi : i < (rd_T50 (deedsC l cs n) j).f2.length) : (rd_T34 (rd_T50 (deedsC l cs n) j).f2 i).f5.size ≤ 2048 := by
  rw [deeds_rd l cs n j h] at hi ⊢
  have e : rd_T34 (deedC l cs j).f2 i = (deedC l cs j).f2[i] := by simp [rd_T34, hi]
  rw [e]
  exact runS_f5 _ _ _ (List.getElem_mem hi)
end Go.Proofs.Ytcnmefocbjilbaa.G
namespace Go.Proofs.Ytcnmefocbjilbaa.G
open Go.RowKit Go.Proofs.YtcnmefocbjilbaaW.PrintWords Go.Proofs.YtcnmefocbjilbaaW.PrintLast Go.Proofs.YtcnmefocbjilbaaW.PrintMore
open Go.Proofs.YtcnmefocbjilbaaFlat
set_option maxHeartbeats 8000000
set_option maxRecDepth 100000

section
variable {ops : Array Oper} {o : Oper} {a : Act} {rest : List Oper} {Q : Exit → Act → World → Prop}
/-- append(ds, deed): the deed's replies lie from block n on, the deeds ahead of it below. -/
theorem app1D {w0 W : World} (base n : Nat) (hgd : o.guard = none) (s x : Operand) (ho : o.op = .call { callee := .builtin .append, args := #[s, x], argTypes := #[45, 45] })
    (v : Value) (xs : List SD) (p : SD) (T : Option Addr) (m ct : Nat) (hs : a.eval s = v) (hx : a.eval x = .slice (some ⟨W.heap.size, 0, none⟩) 1 1) (HO : Kd.S kD 50 W base (fun k => True ∧ k < n) v xs) (HP : Kd.R k34c 34 W base (fun k => n ≤ k) (.slice T m ct) p.rp) (HB : Below base w0 W) (hbase : base ≤ W.heap.size) (hl : xs.length < 1099511627775)
    (h : ∀ v1 w1, Kd.S kD 50 w1 base (fun _ => True) v1 (xs ++ [p]) → Below base w0 w1 → base ≤ w1.heap.size → W.grownBy w1 v.ownBlock → wpList Try.prog ops Q rest (a.put o.dst v1) w1) :
    wpList Try.prog ops Q (o :: rest) a (W.alloc (.cells #[.int .u64 p.tx, .slice p.cl.1 p.cl.2.1 p.cl.2.2, .slice T m ct] 50 (0, 0))) := by
  have hv : ∀ k, v.ownBlock = some k → k < n := fun k hk => ((Kd.S_R HO).1 k hk).2
  refine Kd.S_append kD (w0 := w0) base hgd s x 45 50 (.agg #[(.int .u64 0), (.slice none 0 0), (.slice none 0 0)]) 56 ho Try.underlying45 info50 rfl (by decide) (by omega) v xs p [.int .u64 p.tx, .slice p.cl.1 p.cl.2.1 p.cl.2.2, .slice T m ct] (fun _ => True) (fun k => n ≤ k) hs hx (kD_mkM W base _ p HP) (fun k hk => ⟨trivial, fun e => by have := hv k e.symm; omega⟩) (fun _ _ => trivial) (Kd.S_mono HO fun k hk => ⟨trivial, by omega⟩) HB hbase (by omega) ?_
  intro v1 w1 h1 h2 h3 h4
  exact h v1 w1 h1 h2 (Nat.le_trans hbase h3.size) h3
end
/-- The map as it stands: the one that came in, or one of one's own. -/
def NowR (w W : World) (v : Value) (l : List S40) : Prop := ∃ V n, v = .slice V l.length n ∧ l.length ≤ n ∧ (Kd.C k40 w V l.length l ∨ Own W w.heap.size v l)
theorem NowR.reads {w W : World} {v : Value} {l : List S40} (h : NowR w W v l) (hb : Below w.heap.size w W) : ∃ V n, v = .slice V l.length n ∧ l.length ≤ n ∧ Kd.C k40 W V l.length l := by
  obtain ⟨V, n, rfl, hn, h | h⟩ := h
  · exact ⟨V, n, rfl, hn, Kd.C_below h hb⟩
  · exact ⟨V, n, rfl, hn, (Kd.R_reads' h).2.2⟩
theorem fair_cs {l : List S40} {cs : List (List S26)} {ds : List S50} (hl : ds.length = cs.length) (h : ∀ j : Nat, j < cs.length → (rd_T50 ds j).f1 = rd_L11 cs j) (hc : ∀ j : Nat, j < cs.length → (rd_L11 cs j).length ≤ 20) (h40 : l.length ≤ 40) (h10 : cs.length ≤ 10) : Fair l ds :=
  ⟨fun k hk => by
    rw [now_is hl h k (by omega)]
    have := nowC_len hc h40 k (by omega)
    omega, fun k hk => by rw [h k (by omega)]; have := hc k (by omega); omega⟩
theorem Serial_at (A B : Option Addr) (c d n : Nat) (l : List S40) (ds : List S50) (w : World) (hn : n = ds.length) (HR : Kd.C k40 w A l.length l) (HX : Kd.C k50 w B ds.length ds) (hf : Fair l ds) (hl : l.length < 549755813888) :
    Calls Try.prog 20 #[.slice A l.length c, .slice B n d] w (SerialPost l ds w) := by
  subst hn
  exact Serial_calls A B c d l ds w HR HX hf hl
theorem turn_f1 {l : List S40} {cs : List (List S26)} (k i : Nat) (z : ByteArray) (hk : k < cs.length) (j : Nat) (hj : j < cs.length) : (rd_T50 (turnD (deedsC l cs cs.length) k i z) (j : Int)).f1 = rd_L11 cs j := by
  unfold turnD
  rw [rd50_set _ k j _ (by rw [deeds_len]; exact hk)]
  by_cases e : j = k
  · subst e; rw [if_pos rfl, deeds_rd l cs _ j hj]; rfl
  · rw [if_neg e, deeds_rd l cs _ j hj]; rfl
theorem turn_len {l : List S40} {cs : List (List S26)} (k i : Nat) (z : ByteArray) : (turnD (deedsC l cs cs.length) k i z).length = cs.length := by
  unfold turnD; rw [List.length_set, deeds_len]
theorem more_ne (a b : ByteArray) (h : 0 < b.size) : a ≠ a ++ b := fun e => by
  have := congrArg ByteArray.size e
  rw [ByteArray.size_append] at this
  omega
theorem k34c_openM {w : World} {base : Nat} {ok : Nat → Prop} {x : S34} {cs : List Value} (h : k34c.M w base ok x cs) : ∃ A n cap, cs = [.int .i64 x.f0, .int .u8 x.f1, .int .i64 x.f2, .int .u64 x.f3, .bool x.f4, .string x.f5, .slice A x.f6.length n] ∧ x.f6.length ≤ n ∧ Kd.R k40 40 w base ok (.slice A x.f6.length cap) x.f6 := by
  obtain ⟨_, _, rfl, rfl, _, _, rfl, rfl, _, _, rfl, rfl, _, _, rfl, rfl, _, _, rfl, rfl, _, _, rfl, rfl, A, n, cap, rfl, hn, h⟩ := h
  exact ⟨A, n, cap, rfl, hn, h⟩
theorem kD_apart : ∀ q, q ∈ (40 : Nat) :: k40.E → q ≠ 50 := by
  intro q hq
  simp [k40, Kd.iso, Kd.pair, Kd.string, Kd.scalar] at hq
  omega

theorem SerialLaw_calls (A D : Option Addr) (c g : Nat) (l : List S40) (cs : List (List S26)) (q : Nat) (w : World) (HL : Kd.C k40 w A l.length l) (HD : Kd.C (Kd.slice 26 k26) w D cs.length cs) (hc : l.length ≤ c) (hq : q < 256) :
    Calls Try.prog 6 #[.slice A l.length c, .slice D cs.length g, .int .u8 q] w (fun e w' => e = .returned (.bool true) ∧ Below w.heap.size w w') := by
  have HL0 := Aside0.mk HL
  have HD0 := Aside0.mk HD
  have HC := Aside0.mk hc
  have hmd := Kd.C_max HD
  clear HL HD hc
  have HB := Aside0.mk (Below.refl w.heap.size w)
  go_enter Try.func6, Try.ntmps6
  go_wp2_with fail
  refine (great_calls A c l _ HL0.out).mono ?_
  rintro e w1 ⟨⟨bg, rfl, hbg⟩, NB⟩
  have HBG := Aside0.mk hbg
  clear hbg
  have HB := Aside0.mk (HB.out.trans (NB.mono HB.out.size))
  clear NB
  cases bg with
  | true =>
    go_wp2_with fail
    refine (head_calls _).mono ?_
    rintro e wh ⟨rfl, hb⟩
    go_wp2_with fail
    go_ret
    exact ⟨rfl, HB.out.trans (hb.mono HB.out.size)⟩
  | false =>
    have hl40 := HBG.out rfl
    clear HBG
    go_wp2_with fail
    refine (ref10_Right_calls A c l _ (Kd.C_below HL0.out HB.out)).mono ?_
    rintro e w2 ⟨he, NB⟩
    have HB := Aside0.mk (HB.out.trans (NB.mono HB.out.size))
    clear NB
    cases hr : rightB l with
    | false =>
      rw [hr] at he
      obtain rfl := he
      clear hr
      go_wp2_with fail
      refine (head_calls _).mono ?_
      rintro e wh ⟨rfl, hb⟩
      go_wp2_with fail
      go_ret
      exact ⟨rfl, HB.out.trans (hb.mono HB.out.size)⟩
    | true =>
      rw [hr] at he
      obtain rfl := he
      have Hr := Aside0.mk hr
      clear hr
      by_cases h10 : 10 < cs.length
      · have h10i : (10 : Int) < (cs.length : Int) := by omega
        go_wp2_with fail
        refine (head_calls _).mono ?_
        rintro e wh ⟨rfl, hb⟩
        go_wp2_with fail
        go_ret
        exact ⟨rfl, HB.out.trans (hb.mono HB.out.size)⟩
      have h10i : cs.length ≤ 10 := by omega
      have h10j : decide ((10 : Int) < (cs.length : Int)) = false := decide_eq_false (by omega)
      go_wp2_with fail
      clear h10 h10j
      go_loopw [7, 8, 9] (fun v7 v8 v9 w' => ∃ (i : Nat) (xs : List SD), i ≤ cs.length ∧ v9 = .int .i64 i ∧ Aside0 (NowR w w' v7 (nowC l cs i)) ∧ Aside0 (Rel w xs (deedsC l cs i)) ∧ Aside0 (Kd.S kD 50 w' w.heap.size (fun _ => True) v8 xs) ∧ Aside0 (∀ j : Nat, j < i → (rd_L11 cs j).length ≤ 20) ∧ Aside0 (Below w.heap.size w w')) (fun _ _ v9 _ => cs.length - (intOf v9).toNat)
      case atStart => exact ⟨0, [], by omega, rfl, ⟨A, c, rfl, HC.out, .inl HL0.out⟩, ⟨rel_nil w⟩, ⟨Kd.S_nil _ _ _ _ _⟩, ⟨fun j h => absurd h (by omega)⟩, HB⟩
      case round =>
        obtain ⟨i, xs, hi, rfl, HN, HREL, HS, HF, HB⟩ := hrel
        by_cases hlt : i < cs.length
        · obtain ⟨ad, A0, c0, rfl, x0, l0, g0⟩ := at_L11 HD0.out i (by omega) (by omega)
          simp only [Int.toNat_natCast] at x0
          have X0 := Aside0.mk x0
          have G0 := Aside0.mk g0
          have L0 := Aside0.mk l0
          clear x0 g0 l0
          have x0 := pw_cell_below HB.out X0.out
          have i1 : (i : Int) < (cs.length : Int) := by omega
          go_wp2_with fail
          refine (many_calls A0 c0 (rd_L11 cs i) _ (Kd.C_below G0.out HB.out)).mono ?_
          rintro e w3 ⟨⟨bm, rfl, hbm⟩, NB⟩
          have HBM := Aside0.mk hbm
          clear hbm x0
          have HS := Aside0.mk (Kd.S_below HS.out NB)
          obtain ⟨V7, c7, rfl, hc7, hN7⟩ := HN.out
          have HN7 := Aside0.mk (show NowR w w3 _ _ from ⟨V7, c7, rfl, hc7, hN7.imp id fun h => Kd.R_below h NB⟩)
          clear hN7 hc7
          have HB := Aside0.mk (HB.out.trans (NB.mono HB.out.size))
          clear NB
          cases bm with
          | true =>
            go_wp2_with fail
            refine (head_calls _).mono ?_
            rintro e wh ⟨rfl, hb⟩
            go_wp2_with fail
            go_ret
            exact ⟨rfl, HB.out.trans (hb.mono HB.out.size)⟩
          | false =>
            have H20 := Aside0.mk (HBM.out (by trivial))
            clear HBM
            have x0 := pw_cell_below HB.out X0.out
            obtain ⟨V7b, c7b, e7, hc7, hC7⟩ := HN7.out.reads HB.out
            injection e7 with e1 e2 e3
            subst e1 e3
            clear e2
            have HC7 := Aside0.mk hC7
            have Hc7 := Aside0.mk hc7
            clear hC7 hc7
            have HSN := Aside0.mk (nowC_succ l cs i hlt)
            have HDS := Aside0.mk (deeds_succ l cs i)
            have hnl := nowC_len (l := l) (cs := cs.take i) (fun j hj => by
              have hj2 : j < i := by rw [List.length_take] at hj; omega
              have e : rd_L11 (cs.take i) j = rd_L11 cs j := by simp [rd_L11, hj2]
              rw [e]; exact HF.out j hj2) hl40 i (by rw [List.length_take]; omega)
            have hnl2 : (nowC l cs i).length < 1000 := by
              have e : nowC l (cs.take i) i = nowC l cs i := by unfold nowC; rw [List.take_take, Nat.min_self]
              rw [e] at hnl; omega
            clear hnl
            have HLL := Aside0.mk (show (nowC l cs i).length + (rd_L11 cs i).length < 1099511627775 by have := H20.out; omega)
            have HDC := Aside0.mk (show deedC l cs i = ⟨(i : Int) + 1, rd_L11 cs i, (runS (nowC l cs i) (rd_L11 cs i)).2⟩ from rfl)
            generalize nowC l cs i = N at *
            go_wp2_with fail
            refine (Run_calls V7 A0 c7 c0 N (rd_L11 cs i) _ HC7.out (Kd.C_below G0.out HB.out) Hc7.out HLL.out).mono ?_
            rintro e w4 ⟨va, vt, rfl, hva, hvt, NB⟩
            obtain ⟨P, hP⟩ : ∃ P, runS N (rd_L11 cs i) = P := ⟨_, rfl⟩
            rw [hP] at hva hvt HSN HDC
            clear hP x0
            have hz3 := HB.out.size
            obtain ⟨T, ct, rfl⟩ := Kd.R_slice hvt
            have HVT := Aside0.mk (Kd.R_lower (Kd.R_mono (Kd.R_bound hvt) (fun k hk => hk.2.1)) hz3)
            have HVA := Aside0.mk (Kd.R_lower hva hz3)
            have HS := Aside0.mk (Kd.S_old HS.out NB)
            clear hz3 hva hvt
            have HB := Aside0.mk (HB.out.trans (NB.mono HB.out.size))
            clear NB
            have HXL := Aside0.mk (show xs.length < 1099511627775 by rw [HREL.out.1, deeds_len]; omega)
            have x0 := pw_cell_below HB.out X0.out
            have i2 : (i : Int) ≤ 10 := by omega
            go_wp2_with (at_builtin; go_must (refine app1D (w0 := w) w.heap.size w3.heap.size rfl (.tmp 51) (.tmp 61) rfl u8 xs ⟨(i : Int) + 1, (A0, (rd_L11 cs i).length, c0), P.2⟩ T P.2.length ct rfl rfl HS.out HVT.out HB.out HB.out.size HXL.out ?_); intro v1 w6 h1 h2 h3 h4)
            have g1 : Own w6 w.heap.size va P.1 := Kd.R_over' HVA.out (Kd.S_typed HS.out) kD_apart h4
            have g2 := rel_snoc HREL.out ⟨(i : Int) + 1, (A0, (rd_L11 cs i).length, c0), P.2⟩ (deedC l cs i) (by rw [HDC.out]) (by rw [HDC.out]) (by rw [HDC.out]) (by rw [HDC.out]; exact L0.out) (by rw [HDC.out]; exact G0.out)
            go_roundw
            case rel =>
              obtain ⟨VA, ca, rfl, hca, _⟩ := Kd.R_reads g1
              exact ⟨i + 1, _, by omega, by go_num, ⟨by rw [HSN.out]; exact ⟨VA, ca, rfl, hca, .inr g1⟩⟩, ⟨by rw [HDS.out]; exact g2⟩, ⟨h1⟩, ⟨fun j hj => by
                rcases Nat.lt_or_ge j i with h1 | h1
                · exact HF.out j h1
                · obtain rfl : j = i := by omega
                  exact H20.out⟩, ⟨h2⟩⟩
            case measure => simp [intOf]; omega
        · obtain rfl : i = cs.length := by omega
          clear hlt
          have hxl : xs.length = cs.length := by rw [HREL.out.1, deeds_len]
          obtain ⟨V7, c7, rfl, hc7, hN7⟩ := HN.out
          have HN7 := Aside0.mk hN7
          have Hc7 := Aside0.mk hc7
          clear hN7 hc7
          obtain ⟨V8, c8, rfl, hc8, hC8⟩ := Kd.S_reads HS.out
          have HC8 := Aside0.mk (rel_C HREL.out hC8 HB.out)
          clear hC8 hc8
          rw [hxl] at HS ⊢
          have HXL := Aside0.mk hxl
          clear hxl
          have HFR := Aside0.mk (fair_cs (l := l) (deeds_len l cs cs.length) (fun j hj => by rw [deeds_rd l cs _ j hj]; rfl) HF.out hl40 h10i)
          go_wp2_with fail
          refine (Serial_at A V8 c c8 cs.length l (deedsC l cs cs.length) _ (deeds_len l cs cs.length).symm (Kd.C_below HL0.out HB.out) HC8.out HFR.out (by omega)).mono ?_
          rintro e w5 ⟨vm, m, n, rfl, hvm, hsm, NB⟩
          obtain ⟨rfl, rfl⟩ := serial_all Hr.out hsm
          obtain ⟨VM, cm, rfl, -, hcm⟩ := Kd.R_reads hvm
          have CM := Aside0.mk hcm
          have HS := Aside0.mk (Kd.S_below HS.out NB)
          have C7 := Aside0.mk (show Kd.C k40 w5 V7 (nowC l cs cs.length).length (nowC l cs cs.length) from HN7.out.elim (fun h => Kd.C_below h (HB.out.trans (NB.mono HB.out.size))) (fun h => (Kd.R_reads' (Kd.R_below h NB)).2.2))
          have HB := Aside0.mk (HB.out.trans (NB.mono HB.out.size))
          clear NB hcm hvm hsm
          go_wp2_with fail
          refine (ref10_Same_calls VM V7 cm c7 (nowC l cs cs.length) (nowC l cs cs.length) _ CM.out C7.out).mono ?_
          rintro e w6 ⟨⟨b, rfl, hbb⟩, NB⟩
          obtain rfl : b = true := hbb.2 rfl
          have HS := Aside0.mk (Kd.S_below HS.out NB)
          have HB := Aside0.mk (HB.out.trans (NB.mono HB.out.size))
          clear NB hbb CM C7
          by_cases h0 : cs.length = 0
          · have z1 : (cs.length == 0) = true := beq_iff_eq.2 h0
            have z2 : ((cs.length : Int) == 0) = true := beq_iff_eq.2 (by omega)
            clear h0
            go_wp2_with fail
            refine (head_calls _).mono ?_
            rintro e wh ⟨rfl, hb⟩
            go_wp2_with fail
            go_ret
            exact ⟨rfl, HB.out.trans (hb.mono HB.out.size)⟩
          have hpos : 0 < cs.length := by omega
          have z1 : (cs.length == 0) = false := beq_eq_false_iff_ne.2 h0
          have z2 : ((cs.length : Int) == 0) = false := beq_eq_false_iff_ne.2 (by omega)
          have z3 : ¬ ((cs.length : Int) = 0) := by omega
          have hposi : (0 : Int) < (cs.length : Int) := by omega
          have hq0 : (q : Int) < 256 := by omega
          clear h0
          go_upto_region 19 with fail
          obtain ⟨k, hk⟩ : ∃ k : Nat, q % cs.length = k := ⟨_, rfl⟩
          have hkl : k < cs.length := by rw [← hk]; exact Nat.mod_lt _ hpos
          have hki : ((q : Int) % (cs.length : Int)) = (k : Int) := by exact_mod_cast congrArg (fun x : Nat => (x : Int)) hk
          rw [hki]
          clear hki hk
          obtain ⟨g8, cap8, e8, -, -, -⟩ := Kd.S_form HS.out (by rw [HXL.out]; omega)
          injection e8 with e1 e2 e3
          subst e1
          clear e2 e3
          have HS := Aside0.mk (Kd.S_below HS.out (below_drew (Below.refl w6.heap.size w6)))
          obtain ⟨oki, ck, hcl, hM, hcc, hoki, hback⟩ := Kd.S_borrow HS.out zD k (by omega) (by omega)
          obtain ⟨vr, rfl, hR⟩ := kD_openM hM
          have er := (HREL.out.2 k (by rw [HXL.out]; exact hkl)).2.1
          have ed : xs.getD (k : Int).toNat zD = rdD xs k := rfl
          rw [ed] at hcc hR hback
          rw [er] at hR
          obtain ⟨T, ct, rfl, -, -⟩ := Kd.R_reads hR
          have hmr := Kd.C_max (Kd.R_reads' hR).2.2
          have X2 := Aside0.mk (show w6.drew.cell? ⟨g8, k * 3 + 2, none⟩ = some (.slice T (rd_T50 (deedsC l cs cs.length) k).f2.length ct) by have h := hcc 2 _ rfl; simpa [Addr.add, kD, Kd.iso, Kd.pair, kSl, Kd.scalar, Kd.int, Kd.slice] using h)
          have x2 : w6.cell? ⟨g8, k * 3 + 2, none⟩ = some (.slice T (rd_T50 (deedsC l cs cs.length) k).f2.length ct) := X2.out
          have HR := Aside0.mk hR
          have HBK := Aside0.mk @hback
          have ER := Aside0.mk er
          clear hM hcc hR hback hcl ed er
          have hoki2 := Aside0.mk hoki
          clear hoki
          have k1 : (k : Int) < (cs.length : Int) := by omega
          by_cases h0 : (rd_T50 (deedsC l cs cs.length) k).f2.length = 0
          · have z1 : ((rd_T50 (deedsC l cs cs.length) k).f2.length == 0) = true := beq_iff_eq.2 h0
            have z2 : (((rd_T50 (deedsC l cs cs.length) k).f2.length : Int) == 0) = true := beq_iff_eq.2 (by omega)
            clear h0
            go_wp2_with fail
            refine (head_calls _).mono ?_
            rintro e wh ⟨rfl, hb⟩
            go_wp2_with fail
            go_ret
            exact ⟨rfl, HB.out.trans (hb.mono HB.out.size)⟩
          have rpos : 0 < (rd_T50 (deedsC l cs cs.length) k).f2.length := by omega
          have y1 : ((rd_T50 (deedsC l cs cs.length) k).f2.length == 0) = false := beq_eq_false_iff_ne.2 h0
          have y2 : (((rd_T50 (deedsC l cs cs.length) k).f2.length : Int) == 0) = false := beq_eq_false_iff_ne.2 (by omega)
          have y3 : ¬ (((rd_T50 (deedsC l cs cs.length) k).f2.length : Int) = 0) := by omega
          have rposi : (0 : Int) < ((rd_T50 (deedsC l cs cs.length) k).f2.length : Int) := by omega
          clear h0
          go_upto_region 22 with fail
          obtain ⟨i, hi2⟩ : ∃ i : Nat, q % (rd_T50 (deedsC l cs cs.length) k).f2.length = i := ⟨_, rfl⟩
          have hil : i < (rd_T50 (deedsC l cs cs.length) k).f2.length := by rw [← hi2]; exact Nat.mod_lt _ rpos
          have hii : ((q : Int) % ((rd_T50 (deedsC l cs cs.length) k).f2.length : Int)) = (i : Int) := by exact_mod_cast congrArg (fun x : Nat => (x : Int)) hi2
          rw [hii]
          clear hii hi2
          obtain ⟨gT, capT, e8, -, -, -⟩ := Kd.R_form HR.out rpos
          injection e8 with e1 e2 e3
          subst e1
          clear e2 e3
          obtain ⟨c7b, hcl, hM, hcc, hfr⟩ := Kd.R_elem HR.out z34 i (by omega) (by omega)
          have ez : (rd_T50 (deedsC l cs cs.length) k).f2.getD (i : Int).toNat z34 = rd_T34 (rd_T50 (deedsC l cs cs.length) k).f2 i := rfl
          rw [ez] at hM
          obtain ⟨A6, n6, cap6, rfl, hn6, hR6⟩ := k34c_openM hM
          have Y5 := Aside0.mk (show w6.drew.cell? ⟨gT, i * 7 + 5, none⟩ = some (.string (rd_T34 (rd_T50 (deedsC l cs cs.length) k).f2 i).f5) from hcc 5 _ rfl)
          have F5 := Aside0.mk (show w6.drew.frozen? ⟨gT, i * 7 + 5, none⟩ = false from hfr 5)
          have HB := Aside0.mk (below_drew HB.out)
          have hsz := deed_f5 l cs cs.length k i hkl hil
          obtain ⟨R, hR⟩ : ∃ R, rd_T34 (rd_T50 (deedsC l cs cs.length) k).f2 i = R := ⟨_, rfl⟩
          have HRR := Aside0.mk hR
          have HZ := Aside0.mk (Kd.R_seg HR.out i (by omega) (by omega) (seg := [.string (R.f5 ++ ⟨#[120]⟩)]) (j := 5) hcl hcc (show 5 + 1 ≤ 7 by decide) (x' := ⟨R.f0, R.f1, R.f2, R.f3, R.f4, R.f5 ++ ⟨#[120]⟩, R.f6⟩) (by rw [← hR]; exact k34c_mkM _ _ _ ⟨_, _, _, _, _, _, _⟩ hn6 hR6) (fun k hk => hk))
          rw [hR] at Y5 hsz
          clear hM hcc hcl hfr ez hR6 hn6 hR x2
          have i1 : (i : Int) < ((rd_T50 (deedsC l cs cs.length) k).f2.length : Int) := by omega
          have HOK := Aside0.mk (HR.out.1 gT rfl)
          have x2 : w6.cell? ⟨g8, k * 3 + 2, none⟩ = some (.slice (some ⟨gT, 0, none⟩) (rd_T50 (deedsC l cs cs.length) k).f2.length ct) := X2.out
          have y5 : w6.cell? ⟨gT, i * 7 + 5, none⟩ = some (.string R.f5) := Y5.out
          have f5 : w6.frozen? ⟨gT, i * 7 + 5, none⟩ = false := F5.out
          have hgg : g8 ≠ gT := fun e => (hoki2.out gT HOK.out).2 (by rw [e]; rfl)
          refine wp_region_held (S := fun w' => w'.cell? ⟨g8, k * 3 + 2, none⟩ = some (.slice (some ⟨gT, 0, none⟩) (rd_T50 (deedsC l cs cs.length) k).f2.length ct)) (by kernel_rfl) ?_
          apply hTake 0 rfl rfl rfl (Nat.le_of_ble_eq_true rfl) (by kernel_rfl) (by kernel_rfl) (by kernel_rfl) rfl (fun _ _ _ h => h) (by exact x2)
          · intro w' x2
            go_wp2_with fail
            exact pure_end rfl rfl
          · exact rfl
          apply hTake 1 rfl rfl rfl (Nat.le_of_ble_eq_true rfl) (by kernel_rfl) (by kernel_rfl) (by kernel_rfl) rfl (fun _ _ _ h => h) (by exact x2)
          · intro w' x2
            go_wp2_with fail
            exact pure_end rfl rfl
          · exact rfl
          apply hTake 2 rfl rfl rfl (Nat.le_of_ble_eq_true rfl) (by kernel_rfl) (by kernel_rfl) (by kernel_rfl) rfl (fun _ _ _ h => h) (by exact x2)
          · intro w' x2
            go_wp2_with fail
            exact pure_end rfl rfl
          · exact rfl
          apply hTake 3 rfl rfl rfl (Nat.le_of_ble_eq_true rfl) (by kernel_rfl) (by kernel_rfl) (by kernel_rfl) rfl (fun _ _ _ h => h) (by exact x2)
          · intro w' x2
            go_wp2_with fail
            exact pure_end rfl rfl
          · exact rfl
          apply hTake 4 rfl rfl rfl (Nat.le_of_ble_eq_true rfl) (by kernel_rfl) (by kernel_rfl) (by kernel_rfl) rfl (fun _ _ _ h => h) (by exact x2)
          · intro w' x2
            go_wp2_with fail
            exact pure_end rfl rfl
          · exact rfl
          apply hTake 5 rfl rfl rfl (Nat.le_of_ble_eq_true rfl) (by kernel_rfl) (by kernel_rfl) (by kernel_rfl) rfl (fun _ _ _ h => h) (by exact x2)
          · intro w' x2
            go_wp2_with fail
            exact pure_end rfl rfl
          · exact rfl
          apply hTake 6 rfl rfl rfl (Nat.le_of_ble_eq_true rfl) (by kernel_rfl) (by kernel_rfl) (by kernel_rfl) rfl (fun _ _ _ h => h) (by exact x2)
          · intro w' x2
            go_wp2_with fail
            exact pure_end rfl rfl
          · exact rfl
          apply hTake 7 rfl rfl rfl (Nat.le_of_ble_eq_true rfl) (by kernel_rfl) (by kernel_rfl) (by kernel_rfl) rfl (fun _ _ _ h => h) (by exact x2)
          · intro w' x2
            go_wp2_with fail
            exact pure_end rfl rfl
          · exact rfl
          apply hTake 8 rfl rfl rfl (Nat.le_of_ble_eq_true rfl) (by kernel_rfl) (by kernel_rfl) (by kernel_rfl) rfl (fun _ _ _ h => h) (by exact x2)
          · intro w' x2
            go_wp2_with fail
            exact pure_end rfl rfl
          · exact rfl
          apply hTake 9 rfl rfl rfl (Nat.le_of_ble_eq_true rfl) (by kernel_rfl) (by kernel_rfl) (by kernel_rfl) rfl (fun _ _ _ h => h) (by exact x2)
          · intro w' x2
            go_wp2_with fail
            exact pure_end rfl rfl
          · exact rfl
          apply hTake 10 rfl rfl rfl (Nat.le_of_ble_eq_true rfl) (by kernel_rfl) (by kernel_rfl) (by kernel_rfl) rfl (fun _ _ _ h => h) (by exact x2)
          · intro w' x2
            go_wp2_with fail
            exact pure_end rfl rfl
          · exact rfl
          apply hTake 11 rfl rfl rfl (Nat.le_of_ble_eq_true rfl) (by kernel_rfl) (by kernel_rfl) (by kernel_rfl) rfl (fun _ _ _ h => h) (by exact x2)
          · intro w' x2
            go_wp2_with fail
            exact pure_end rfl rfl
          · exact rfl
          apply hTake 12 rfl rfl rfl (Nat.le_of_ble_eq_true rfl) (by kernel_rfl) (by kernel_rfl) (by kernel_rfl) rfl (fun _ _ _ h => h) (by exact x2)
          · intro w' x2
            go_wp2_with fail
            exact pure_end rfl rfl
          · exact rfl
          apply hTake 13 rfl rfl rfl (Nat.le_of_ble_eq_true rfl) (by kernel_rfl) (by kernel_rfl) (by kernel_rfl) rfl (fun _ _ _ h => h) (by exact x2)
          · intro w' x2
            go_wp2_with fail
            exact pure_end rfl rfl
          · exact rfl
          apply hEff 14 rfl (by kernel_rfl) rfl
          go_wp2_with fail
          refine eff_end (by exact x2) ?_
          apply hEff 15 rfl (by kernel_rfl) rfl
          go_wp2_with fail
          refine eff_end (by exact x2) ?_
          apply hEff 16 rfl (by kernel_rfl) rfl
          go_wp2_with fail
          refine eff_end (by exact x2) ?_
          apply hEff 17 rfl (by kernel_rfl) rfl
          go_wp2_with fail
          refine eff_end (by exact x2) ?_
          apply hEff 18 rfl (by kernel_rfl) rfl
          go_wp2_with fail
          refine eff_end (by exact (cell_far (p := ⟨gT, i * 7 + 5, none⟩) hgg _).trans x2) ?_
          refine hDone (by kernel_rfl) ?_
          go_upto_region 23 with fail
          have HZ := Aside0.mk (show Kd.R k34c 34 (w6.setCell ⟨gT, i * 7 + 5, none⟩ (.string (R.f5 ++ ⟨#[120]⟩))).drew w.heap.size oki (.slice (some ⟨gT, 0, none⟩) (rd_T50 (deedsC l cs cs.length) k).f2.length ct) ((rd_T50 (deedsC l cs cs.length) k).f2.set i ⟨R.f0, R.f1, R.f2, R.f3, R.f4, (R.f5 ++ ⟨#[120]⟩), R.f6⟩) ∧ w6.drew.grownBy (w6.setCell ⟨gT, i * 7 + 5, none⟩ (.string (R.f5 ++ ⟨#[120]⟩))).drew (some gT) from HZ.out)
          have hgb := Kd.R_base HR.out gT rfl
          generalize (w6.setCell ⟨gT, i * 7 + 5, none⟩ (.string (R.f5 ++ ⟨#[120]⟩))).drew = W1 at HZ ⊢
          have HS2 := Aside0.mk (HBK.out HZ.out.2 (fun j hj => by cases hj; exact HOK.out) (x' := ⟨(rdD xs k).tx, (rdD xs k).cl, turnAt (rdD xs k).rp i (R.f5 ++ ⟨#[120]⟩)⟩) (kD_mkM W1 _ _ ⟨(rdD xs k).tx, (rdD xs k).cl, turnAt (rdD xs k).rp i (R.f5 ++ ⟨#[120]⟩)⟩ (by
            have e : turnAt (rdD xs k).rp i (R.f5 ++ ⟨#[120]⟩) = (rd_T50 (deedsC l cs cs.length) k).f2.set i ⟨R.f0, R.f1, R.f2, R.f3, R.f4, (R.f5 ++ ⟨#[120]⟩), R.f6⟩ := by unfold turnAt; rw [ER.out, HRR.out]
            rw [e]; exact HZ.out.1)))
          have HB := Aside0.mk (HB.out.grown HZ.out.2 HB.out.size (fun j hj => by cases hj; exact hgb))
          have HNE := Aside0.mk (show (rd_T34 (rd_T50 (deedsC l cs cs.length) k).f2 i).f5 ≠ (R.f5 ++ ⟨#[120]⟩) by rw [HRR.out]; exact more_ne _ _ (by decide))
          have HSZ := Aside0.mk hsz
          clear x2 y5 f5 hgb HZ hsz
          have HFT := Aside0.mk (fair_cs (l := l) (turn_len (l := l) (cs := cs) k i (R.f5 ++ ⟨#[120]⟩)) (fun j hj => turn_f1 (l := l) k i (R.f5 ++ ⟨#[120]⟩) hkl j hj) HF.out hl40 h10i)
          have HCT := Aside0.mk (rel_C (rel_turn HREL.out k i (R.f5 ++ ⟨#[120]⟩) (by rw [HXL.out]; exact hkl)) (Kd.S_reads' HS2.out).2.2 HB.out)
          go_wp2_with fail
          refine (Serial_at A (some ⟨g8, 0, none⟩) c c8 cs.length l (turnD (deedsC l cs cs.length) k i (R.f5 ++ ⟨#[120]⟩)) _ (turn_len (l := l) (cs := cs) k i (R.f5 ++ ⟨#[120]⟩)).symm (Kd.C_below HL0.out HB.out) HCT.out HFT.out (by omega)).mono ?_
          rintro e w8 ⟨vm, m, n, rfl, -, hsm, NB⟩
          obtain rfl : n = k := serial_cut Hr.out hkl hil HNE.out hsm
          have HB := Aside0.mk (HB.out.trans (NB.mono HB.out.size))
          clear NB hsm
          go_wp2_with fail
          refine (head_calls _).mono ?_
          rintro e wh ⟨rfl, hb⟩
          go_wp2_with fail
          go_ret
          exact ⟨rfl, HB.out.trans (hb.mono HB.out.size)⟩
end Go.Proofs.Ytcnmefocbjilbaa.G
namespace Go.Proofs.Ytcnmefocbjilbaa.ModelSerialRow
open Go.ChangeShapes Go.WideShapes Go.ChangeAt Go.RowKit Go.Proofs.YtcnmefocbjilbaaW.PrintWords
open Go.ChangeMaps (open_string shut_string)
theorem own : ownKnob Try.prog.godebug = none := by kernel_rfl
theorem laidOut : laidOutB Try.prog = true := by kernel_rfl
set_option maxRecDepth 100000 in
theorem lifted (os : Os) (started : os.Started) (H : Type) (enc : TypeId × Value → H) :
    ReturnsInHanded {} Try.checked os 6 .any (Rows.modelSerialSpec.pre6 enc Try.prog Try.f6 Rows.modelSerialRow.domain false) (Rows.modelSerialSpec.post enc Try.prog Try.f6 false true false false) := by
  refine returnsInHanded_of_change_sized (C := Try.checked) own started (by kernel_rfl) Try.func6
    (ChangeSpec.witness6 (enc := enc) (C := Try.checked) false ⟨#[], #[.slice none 0 0, .slice none 0 0, .int .u8 0], []⟩ 8 (by kernel_rfl) (by kernel_rfl) (by kernel_rfl) (by kernel_rfl)) ?_
  intro W base args ds gs before hval0 hW hcnd hsz0 _
  have hval : ∀ (j : Nat) t v, Try.f6.params[j]? = some t → args[j]? = some v → Value.okWide Try.prog W .any base t v := hval0
  have hW' := hW
  obtain ⟨p, q, hA0, hV, rfl, hfz, hnd⟩ := hW
  have hA : DataW.TrodAll enc Try.prog W 0 (fun _ => true) true Try.f6.params.toList args.toList ds p := hA0
  rw [Try.params6] at hA hval
  obtain ⟨v0, vs0, d0, ds0, p0, q0, hargs, rfl, rfl, h0, r0⟩ := trodAll_cons hA
  obtain ⟨v1, vs1, d1, ds1, p1, q1, rfl, rfl, rfl, h1, r1⟩ := trodAll_cons r0
  obtain ⟨v2, vs2, d2, ds2, p2, q2, rfl, rfl, rfl, h2, r2⟩ := trodAll_cons r1
  obtain ⟨rfl, rfl, rfl⟩ := trodAll_nil r2
  obtain rfl : args = #[v0, v1, v2] := by cases args; simp_all
  obtain ⟨rfl, rfl⟩ := trodVars_none hV
  have k0 := h0
  have lt0 : ∀ x ∈ p0, x.block < W.heap.size := by obtain ⟨m, hm⟩ := k0; exact DataW.trod_lt m _ _ _ hm
  have k1 := h1
  have lt1 : ∀ x ∈ p1, x.block < W.heap.size := by obtain ⟨m, hm⟩ := k1; exact DataW.trod_lt m _ _ _ hm
  have k2 := h2
  have lt2 : ∀ x ∈ p2, x.block < W.heap.size := by obtain ⟨m, hm⟩ := k2; exact DataW.trod_lt m _ _ _ hm
  obtain ⟨A, n, c, rfl⟩ := okWide_slice Try.underlying22 (hval 0 22 v0 rfl rfl)
  obtain ⟨l, rfl, hcl, HR⟩ : ∃ l : List G.S40, n = l.length ∧ l.length ≤ c ∧ Kd.C G.k40 W A l.length l := G.open_cells h0
  obtain ⟨A1, n1, c1, rfl⟩ := okWide_slice Try.underlying56 (hval 1 56 v1 rfl rfl)
  obtain ⟨cs, rfl, HD⟩ : ∃ cs : List (List G.S26), n1 = cs.length ∧ Kd.C (Kd.slice 26 G.k26) W A1 cs.length cs := by
    obtain ⟨fuel, hf⟩ := h1
    obtain ⟨cs, e, _, hC⟩ := G.opens_row (d := Kd.slice 26 G.k26) Try.underlying56 (by kernel_rfl) (G.opens_slice Try.underlying47 (by kernel_rfl) G.opens26) (by simpa [Value.cells] using hf)
    exact ⟨cs, e, hC⟩
  obtain ⟨q, hq, rfl⟩ : ∃ q : Nat, q < 256 ∧ v2 = .int .u8 q := by
    obtain ⟨n, rfl, _, _, hw⟩ := open_int (show Try.prog.underlying 5 = some (.int .u8) by kernel_rfl) (hval 2 5 v2 rfl rfl) h2
    simp only [Lit.wf, Bool.and_eq_true, decide_eq_true_eq, show IntKind.u8.min = 0 from rfl, show IntKind.u8.max = 255 from rfl] at hw
    exact ⟨n.toNat, by omega, by rw [Int.toNat_of_nonneg hw.1]⟩
  clear hA0 hval0 hsz0
  refine (G.SerialLaw_calls A A1 c c1 l cs q W HR HD hcl hq).mono fun e W' ⟨he, bel⟩ => ?_
  subst he
  exact ⟨_, rfl, _, _, _, [], _, [], hW', trodAll_mk1 (shut_bool Try.underlying4 _), (trodAll_cons_mk (Below.trod laidOut (by kernel_rfl) (of_decide_eq_true (by kernel_rfl)) k0 bel lt0) (trodAll_cons_mk (Below.trod laidOut (by kernel_rfl) (of_decide_eq_true (by kernel_rfl)) k1 bel lt1) (trodAll_cons_mk (Below.trod laidOut (by kernel_rfl) (of_decide_eq_true (by kernel_rfl)) k2 bel lt2) trodAll_mk0))), rfl, bel.frame _, fun h => by cases h⟩
theorem over : Rows.modelSerialRow.holds Try.pinned (OpenSpec.ofChange Rows.modelSerialSpec) :=
  OpenClaim.holds_of_wide 6 Try.f6 rfl rfl rfl rfl rfl rfl rfl ⟨rfl, rfl, rfl, rfl, rfl⟩ rfl rfl rfl rfl rfl (by kernel_rfl) Try.func6 (by kernel_rfl)
    (of_decide_eq_true (by kernel_rfl)) (by unfold Func.isWrapper; first | (rw [if_pos (by decide +kernel)]; kernel_rfl) | (rw [if_neg (by decide +kernel)]; exact ⟨rfl, rfl⟩))
    (fun os started H enc _ => lifted os started H enc)
theorem proved : Rows.ModelSerialSaid := over
end Go.Proofs.Ytcnmefocbjilbaa.ModelSerialRow
namespace Go.Proofs.Ytcnmefocbjilbaa
/-- The row, under a short name, for the claim. -/
theorem modelSerial_holds : Rows.ModelSerialSaid := ModelSerialRow.proved
end Go.Proofs.Ytcnmefocbjilbaa
