/- Part of the seat's claims: lockkeeperlaw30.ModelApart answers true for every row of cells and any two calls (no condition). -/
import Derived.Test.YtcnmefocbjilbaaM3
import Derived.Test.YtcnmefocbjilbaaM2
import Derived.Test.YtcnmefocbjilbaaRows
import Derived.WalkKit
import Derived.ProofKit
import Derived.OpenShut
import Derived.ShutString
import Derived.ChangeOld
import Derived.Below
import Derived.SizedLaws
set_option linter.unusedVariables false
set_option linter.unusedSimpArgs false
namespace Go.Proofs.Ytcnmefocbjilbaa.G
open Go.RowKit
set_option maxHeartbeats 1000000

/-! ### two calls on other keys: the plain law -/
abbrev Lt (a b : S40) : Prop := lessC a b = true
theorem right_iff (l : List S40) : rightB l = true ↔ (∀ c ∈ l, fitsB c = true) ∧ l.Pairwise Lt := by
  induction l using rightB.induct with
  | case1 => simp [rightB]
  | case2 c => simp [rightB]
  | case3 c d r ih =>
    rw [rightB, Bool.and_eq_true, Bool.and_eq_true, ih]
    simp only [List.pairwise_cons, List.mem_cons, forall_eq_or_imp]
    constructor
    · rintro ⟨⟨h1, h2⟩, ⟨h3, h4⟩, h5, h6⟩
      exact ⟨⟨h1, h3, h4⟩, ⟨h2, fun x hx => bl_trans h2 (h5 x hx)⟩, h5, h6⟩
    · rintro ⟨⟨h1, h3, h4⟩, ⟨h2, _⟩, h5, h6⟩
      exact ⟨⟨h1, h2⟩, ⟨h3, h4⟩, h5, h6⟩
theorem lt_irr (a : S40) : ¬ Lt a a := by
  unfold Lt lessC
  rw [bl_irrefl]
  decide
theorem lt_trans' {a b c : S40} (h : Lt a b) (k : Lt b c) : Lt a c := bl_trans h k
theorem lt_key {a b : S40} (h : Lt a b) : a.f0 ≠ b.f0 := by
  intro e
  unfold Lt lessC at h
  rw [e, bl_irrefl] at h
  cases h
theorem lt_or {a b : S40} (h : a.f0 ≠ b.f0) : Lt a b ∨ Lt b a := by
  unfold Lt lessC
  cases h1 : Op.bytesLess a.f0.toList b.f0.toList with
  | true => exact .inl rfl
  | false =>
    cases h2 : Op.bytesLess b.f0.toList a.f0.toList with
    | true => exact .inr rfl
    | false => exact absurd (tl_inj (bl_tri h1 h2)) h
theorem sorted_ext : ∀ {a b : List S40}, a.Pairwise Lt → b.Pairwise Lt → (∀ x, x ∈ a ↔ x ∈ b) → a = b
  | [], [], _, _, _ => rfl
  | [], y :: ys, _, _, h => absurd ((h y).2 List.mem_cons_self) (by simp)
  | x :: xs, [], _, _, h => absurd ((h x).1 List.mem_cons_self) (by simp)
  | x :: xs, y :: ys, ha, hb, h => by
    rw [List.pairwise_cons] at ha hb
    have hxy : x = y := by
      rcases List.mem_cons.1 ((h x).1 List.mem_cons_self) with e | h1
      · exact e
      · rcases List.mem_cons.1 ((h y).2 List.mem_cons_self) with e | h2
        · exact e.symm
        · exact absurd (lt_trans' (hb.1 x h1) (ha.1 y h2)) (lt_irr y)
    subst hxy
    rw [sorted_ext ha.2 hb.2 fun z => ⟨fun hz => ?_, fun hz => ?_⟩]
    · rcases List.mem_cons.1 ((h z).1 (List.mem_cons_of_mem _ hz)) with e | h1
      · subst e; exact absurd (ha.1 z hz) (lt_irr z)
      · exact h1
    · rcases List.mem_cons.1 ((h z).2 (List.mem_cons_of_mem _ hz)) with e | h1
      · subst e; exact absurd (hb.1 z hz) (lt_irr z)
      · exact h1
theorem mem_put {l : List S40} {c x : S40} : x ∈ putS l c ↔ x = c ∨ (x ∈ l ∧ x.f0 ≠ c.f0) := by
  unfold putS
  simp only [List.mem_append, List.mem_filter, List.mem_singleton]
  constructor
  · rintro ((⟨h1, h2⟩ | h) | ⟨h1, h2⟩)
    · exact .inr ⟨h1, lt_key h2⟩
    · exact .inl h
    · exact .inr ⟨h1, fun e => lt_key h2 e.symm⟩
  · rintro (h | ⟨h1, h2⟩)
    · exact .inl (.inr h)
    · rcases lt_or h2 with h3 | h3
      · exact .inl (.inl ⟨h1, h3⟩)
      · exact .inr ⟨h1, h3⟩
theorem key_iff {k : ByteArray} {x : S40} : isKey k x = true ↔ x.f0 = k := by
  unfold isKey
  rw [beq_iff_eq]
  exact ⟨tl_inj, fun h => by rw [h]⟩
theorem mem_del {l : List S40} {k : ByteArray} {x : S40} : x ∈ l.filter (fun y => !isKey k y) ↔ x ∈ l ∧ x.f0 ≠ k := by
  rw [List.mem_filter, Bool.not_eq_true', ← Bool.not_eq_true, key_iff]
theorem put_sorted {l : List S40} {c : S40} (h : l.Pairwise Lt) : (putS l c).Pairwise Lt := by
  unfold putS
  rw [List.pairwise_append, List.pairwise_append]
  refine ⟨⟨h.filter _, List.pairwise_singleton _ _, ?_⟩, h.filter _, ?_⟩
  · intro a ha b hb
    rw [List.mem_singleton] at hb
    subst hb
    exact (List.mem_filter.1 ha).2
  · intro a ha b hb
    have hb2 := (List.mem_filter.1 hb).2
    rcases List.mem_append.1 ha with ha | ha
    · exact lt_trans' (List.mem_filter.1 ha).2 hb2
    · rw [List.mem_singleton] at ha
      subst ha
      exact hb2
theorem put_right {l : List S40} {c : S40} (h : rightB l = true) (hc : fitsB c = true) : rightB (putS l c) = true := by
  rw [right_iff] at *
  refine ⟨fun x hx => ?_, put_sorted h.2⟩
  rcases mem_put.1 hx with rfl | ⟨h1, _⟩
  · exact hc
  · exact h.1 x h1
theorem filter_right {l : List S40} {p : S40 → Bool} (h : rightB l = true) : rightB (l.filter p) = true := by
  rw [right_iff] at *
  exact ⟨fun x hx => h.1 x (List.mem_filter.1 hx).1, h.2.filter _⟩
theorem one_key {l : List S40} (h : l.Pairwise Lt) {a b : S40} (ha : a ∈ l) (hb : b ∈ l) (e : a.f0 = b.f0) : a = b := by
  induction l with
  | nil => cases ha
  | cons x xs ih =>
    rw [List.pairwise_cons] at h
    rcases List.mem_cons.1 ha with rfl | ha'
    · rcases List.mem_cons.1 hb with rfl | hb'
      · rfl
      · exact absurd e (lt_key (h.1 b hb'))
    · rcases List.mem_cons.1 hb with rfl | hb'
      · exact absurd e.symm (lt_key (h.1 a ha'))
      · exact ih h.2 ha' hb'
theorem findO_iff {l : List S40} (h : rightB l = true) (k v : ByteArray) : findO l k = some v ↔ (⟨k, v⟩ : S40) ∈ l := by
  rw [right_iff] at h
  unfold findO
  constructor
  · intro hf
    rw [Option.map_eq_some_iff] at hf
    obtain ⟨c, hc, rfl⟩ := hf
    have h1 := List.mem_of_find?_eq_some hc
    have h2 := key_iff.1 (List.find?_some hc)
    subst h2
    exact h1
  · intro hm
    cases hf : l.find? (isKey k) with
    | none =>
      rw [List.find?_eq_none] at hf
      exact absurd (key_iff.2 rfl) (hf _ hm)
    | some c =>
      have h1 := List.mem_of_find?_eq_some hf
      have h2 := key_iff.1 (List.find?_some hf)
      rw [one_key h.2 h1 hm h2]
      rfl
theorem findV_iff {l : List S40} (h : rightB l = true) (k v : ByteArray) : findV l k = some v ↔ (⟨k, v⟩ : S40) ∈ l := by
  unfold findV
  rw [if_pos h, findO_iff h]
theorem findV_ext {l m : List S40} (hl : rightB l = true) (hm : rightB m = true) (k : ByteArray) (h : ∀ v, (⟨k, v⟩ : S40) ∈ l ↔ (⟨k, v⟩ : S40) ∈ m) : findV l k = findV m k := by
  apply Option.ext
  intro v
  have h1 := findV_iff hl k v
  have h2 := findV_iff hm k v
  rw [h1, h2, h v]

/-- What a call makes of a map in which its key has o. -/
def opS (x : S26) (o : Option ByteArray) (l : List S40) : List S40 :=
  if hasKey x = true ∧ okCall x = false then l
  else if x.f0 = 3 then (if o.isSome then l else putS l ⟨x.f1, x.f2⟩)
  else if x.f0 = 4 then (if o.isSome then putS l ⟨x.f1, x.f2⟩ else l)
  else if x.f0 = 5 then (if o.isSome then l.filter (fun y => !isKey x.f1 y) else l)
  else l
/-- .. and what it tells. -/
def repS (x : S26) (o : Option ByteArray) : S34 :=
  if hasKey x = true ∧ okCall x = false then noReply x.f0 3
  else if x.f0 = 2 then ⟨0, x.f0, 0, 0, o.isSome, o.getD ⟨#[]⟩, []⟩
  else if x.f0 = 3 then (if o.isSome then noReply x.f0 8 else noReply x.f0 0)
  else if x.f0 = 4 then (if o.isSome then noReply x.f0 0 else noReply x.f0 7)
  else if x.f0 = 5 then (if o.isSome then noReply x.f0 0 else noReply x.f0 7)
  else noReply x.f0 2
theorem do_is {l : List S40} {x : S26} (h : rightB l = true) (h6 : x.f0 ≠ 6) : doS l x = (opS x (findV l x.f1) l, repS x (findV l x.f1)) := by
  unfold doS opS repS isIn
  rw [if_neg (by rw [h]; decide), if_neg h6]
  by_cases h1 : hasKey x = true ∧ okCall x = false
  · rw [if_pos h1, if_pos h1, if_pos h1]
  rw [if_neg h1, if_neg h1, if_neg h1]
  by_cases h2 : x.f0 = 2
  · rw [if_pos h2, if_pos h2, if_neg (by omega), if_neg (by omega), if_neg (by omega)]
  rw [if_neg h2, if_neg h2]
  by_cases h3 : x.f0 = 3
  · rw [if_pos h3, if_pos h3, if_pos h3]
    split <;> rfl
  rw [if_neg h3, if_neg h3, if_neg h3]
  by_cases h4 : x.f0 = 4
  · rw [if_pos h4, if_pos h4, if_pos h4]
    split <;> rfl
  rw [if_neg h4, if_neg h4, if_neg h4]
  by_cases h5 : x.f0 = 5
  · rw [if_pos h5, if_pos h5, if_pos h5]
    split <;> rfl
  rw [if_neg h5, if_neg h5, if_neg h5]
theorem ok_fits {x : S26} (h : okCall x = true) : fitsB ⟨x.f1, x.f2⟩ = true := by
  unfold okCall at h
  unfold fitsB
  simp only [Bool.and_eq_true, decide_eq_true_eq] at h ⊢
  omega
theorem hasKey_of {x : S26} (h : 2 ≤ x.f0 ∧ x.f0 ≤ 5) : hasKey x = true := by
  unfold hasKey
  rw [Bool.and_eq_true, decide_eq_true_eq, decide_eq_true_eq]
  exact h
/-- A call keeps the map, puts its cell, or strikes its key. -/
theorem op_is (x : S26) (o : Option ByteArray) : (∀ l, opS x o l = l) ∨ (fitsB ⟨x.f1, x.f2⟩ = true ∧ ∀ l, opS x o l = putS l ⟨x.f1, x.f2⟩) ∨ (∀ l, opS x o l = l.filter (fun y => !isKey x.f1 y)) := by
  by_cases h1 : hasKey x = true ∧ okCall x = false
  · exact .inl fun l => by unfold opS; rw [if_pos h1]
  have hf : 2 ≤ x.f0 ∧ x.f0 ≤ 5 → fitsB ⟨x.f1, x.f2⟩ = true := fun h => ok_fits (by
    cases ho : okCall x with
    | true => rfl
    | false => exact absurd ⟨hasKey_of h, ho⟩ h1)
  by_cases h3 : x.f0 = 3
  · cases o with
    | none => exact .inr (.inl ⟨hf (by omega), fun l => by unfold opS; rw [if_neg h1, if_pos h3]; rfl⟩)
    | some v => exact .inl fun l => by unfold opS; rw [if_neg h1, if_pos h3]; rfl
  by_cases h4 : x.f0 = 4
  · cases o with
    | none => exact .inl fun l => by unfold opS; rw [if_neg h1, if_neg h3, if_pos h4]; rfl
    | some v => exact .inr (.inl ⟨hf (by omega), fun l => by unfold opS; rw [if_neg h1, if_neg h3, if_pos h4]; rfl⟩)
  by_cases h5 : x.f0 = 5
  · cases o with
    | none => exact .inl fun l => by unfold opS; rw [if_neg h1, if_neg h3, if_neg h4, if_pos h5]; rfl
    | some v => exact .inr (.inr fun l => by unfold opS; rw [if_neg h1, if_neg h3, if_neg h4, if_pos h5]; rfl)
  exact .inl fun l => by unfold opS; rw [if_neg h1, if_neg h3, if_neg h4, if_neg h5]
theorem op_right {l : List S40} (x : S26) (o : Option ByteArray) (h : rightB l = true) : rightB (opS x o l) = true := by
  rcases op_is x o with e | ⟨hf, e⟩ | e
  · rw [e]; exact h
  · rw [e]; exact put_right h hf
  · rw [e]; exact filter_right h
theorem op_other {l : List S40} {x : S26} {o : Option ByteArray} {k v : ByteArray} (hk : k ≠ x.f1) : (⟨k, v⟩ : S40) ∈ opS x o l ↔ (⟨k, v⟩ : S40) ∈ l := by
  rcases op_is x o with e | ⟨_, e⟩ | e
  · rw [e]
  · rw [e, mem_put]
    constructor
    · rintro (h | h)
      · injection h with h1; exact absurd h1 hk
      · exact h.1
    · exact fun h => .inr ⟨h, hk⟩
  · rw [e, mem_del]
    exact ⟨fun h => h.1, fun h => ⟨h, hk⟩⟩
theorem op_find {l : List S40} {x : S26} {o : Option ByteArray} {k : ByteArray} (h : rightB l = true) (hk : k ≠ x.f1) : findV (opS x o l) k = findV l k :=
  findV_ext (op_right x o h) h k fun _ => op_other hk
theorem op_comm {l : List S40} {x y : S26} (o p : Option ByteArray) (h : rightB l = true) (hk : x.f1 ≠ y.f1) : opS y p (opS x o l) = opS x o (opS y p l) := by
  have a1 := ((right_iff _).1 (op_right y p (op_right x o h))).2
  have a2 := ((right_iff _).1 (op_right x o (op_right y p h))).2
  refine sorted_ext a1 a2 fun z => ?_
  clear a1 a2
  have hk' : y.f1 ≠ x.f1 := fun e => hk e.symm
  rcases op_is x o with e1 | ⟨_, e1⟩ | e1 <;> rcases op_is y p with e2 | ⟨_, e2⟩ | e2
  all_goals simp only [e1, e2, mem_put, mem_del]
  · constructor
    · rintro (rfl | ⟨rfl | h1, h2⟩)
      · exact .inr ⟨.inl rfl, hk'⟩
      · exact .inl rfl
      · exact .inr ⟨.inr ⟨h1.1, h2⟩, h1.2⟩
    · rintro (rfl | ⟨rfl | h1, h2⟩)
      · exact .inr ⟨.inl rfl, hk⟩
      · exact .inl rfl
      · exact .inr ⟨.inr ⟨h1.1, h2⟩, h1.2⟩
  · constructor
    · rintro ⟨rfl | h1, h2⟩
      · exact .inl rfl
      · exact .inr ⟨⟨h1.1, h2⟩, h1.2⟩
    · rintro (rfl | ⟨h1, h2⟩)
      · exact ⟨.inl rfl, hk⟩
      · exact ⟨.inr ⟨h1.1, h2⟩, h1.2⟩
  · constructor
    · rintro (rfl | ⟨h1, h2⟩)
      · exact ⟨.inl rfl, hk'⟩
      · exact ⟨.inr ⟨h1.1, h2⟩, h1.2⟩
    · rintro ⟨rfl | h1, h2⟩
      · exact .inl rfl
      · exact .inr ⟨⟨h1.1, h2⟩, h1.2⟩
  · constructor
    · rintro ⟨⟨h1, h2⟩, h3⟩
      exact ⟨⟨h1, h3⟩, h2⟩
    · rintro ⟨⟨h1, h2⟩, h3⟩
      exact ⟨⟨h1, h3⟩, h2⟩
theorem do_right {l : List S40} (x : S26) (h : rightB l = true) : rightB (doS l x).1 = true := by
  by_cases h6 : x.f0 = 6
  · have : (doS l x).1 = l := by
      unfold doS
      rw [if_neg (by rw [h]; decide), if_neg (by unfold hasKey; simp; omega), if_neg (by omega), if_neg (by omega), if_neg (by omega), if_neg (by omega), if_pos h6]
      split <;> rfl
    rw [this]; exact h
  · rw [do_is h h6]; exact op_right x _ h
/-- Two calls on other keys, in either order. -/
theorem apart_law {l : List S40} {x y : S26} (h : rightB l = true) (hx : x.f0 ≠ 6) (hy : y.f0 ≠ 6) (hk : x.f1 ≠ y.f1) :
    (doS (doS l x).1 y).1 = (doS (doS l y).1 x).1 ∧ (doS (doS l y).1 x).2 = (doS l x).2 ∧ (doS (doS l x).1 y).2 = (doS l y).2 := by
  have hk' : y.f1 ≠ x.f1 := fun e => hk e.symm
  have e1 := do_is (x := x) h hx
  have e2 := do_is (x := y) h hy
  have e3 := do_is (l := (doS l x).1) (x := y) (do_right x h) hy
  have e4 := do_is (l := (doS l y).1) (x := x) (do_right y h) hx
  rw [e3, e4, e1, e2]
  simp only
  rw [op_find h hk, op_find h hk']
  exact ⟨op_comm _ _ h hk, rfl, rfl⟩
theorem get_same {l : List S40} {x : S26} (h : rightB l = true) (hx : x.f0 = 2) : (doS l x).1 = l := by
  rw [do_is h (by omega)]
  unfold opS
  split
  · rfl
  · rw [if_neg (by omega), if_neg (by omega), if_neg (by omega)]
theorem scan_same {l : List S40} {x : S26} (h : rightB l = true) (h6 : x.f0 = 6) : (doS l x).1 = l := by
  unfold doS
  rw [if_neg (by rw [h]; decide), if_neg (by unfold hasKey; simp; omega), if_neg (by omega), if_neg (by omega), if_neg (by omega), if_neg (by omega), if_pos h6]
  split <;> rfl
theorem diff_same (l : List S40) : diffS l l = [] := by
  unfold diffS
  split
  · have : diffK l l = [] := by
      unfold diffK
      rw [List.map_eq_nil_iff, List.filter_eq_nil_iff]
      intro a _
      unfold unlike
      simp
    rw [this]
    simp [sorted, Lib.compact]
    decide
  · rfl
theorem op_len {l : List S40} (x : S26) (o : Option ByteArray) : (opS x o l).length ≤ l.length + 1 := by
  rcases op_is x o with e | ⟨_, e⟩ | e
  · rw [e]; omega
  · rw [e]
    unfold putS
    have h1 : ∀ (l : List S40) (c : S40), (l.filter (fun x => lessC x c)).length + (l.filter (fun x => lessC c x)).length ≤ l.length := by
      intro l c
      induction l with
      | nil => simp
      | cons a l ih =>
        rw [List.filter_cons, List.filter_cons]
        cases h1 : lessC a c with
        | true =>
          have h2 : lessC c a = false := bl_asymm h1
          rw [h2]
          simp only [if_true, Bool.false_eq_true, if_false, List.length_cons]
          omega
        | false =>
          simp only [Bool.false_eq_true, if_false]
          split <;> simp only [List.length_cons] <;> omega
    have := h1 l ⟨x.f1, x.f2⟩
    simp only [List.length_append, List.length_singleton]
    omega
  · rw [e]
    have := List.length_filter_le (fun y => !isKey x.f1 y) l
    omega
theorem do_len {l : List S40} (x : S26) : (doS l x).1.length ≤ l.length + 1 := by
  cases h : rightB l with
  | false => unfold doS; rw [if_pos h]; simp
  | true =>
    by_cases h6 : x.f0 = 6
    · rw [scan_same h h6]; omega
    · rw [do_is h h6]; exact op_len x _
end Go.Proofs.Ytcnmefocbjilbaa.G
namespace Go.Proofs.Ytcnmefocbjilbaa.G
open Go.RowKit Go.Proofs.YtcnmefocbjilbaaW.PrintWords Go.Proofs.YtcnmefocbjilbaaW.PrintLast Go.Proofs.YtcnmefocbjilbaaW.PrintMore
open Go.Proofs.YtcnmefocbjilbaaFlat
set_option maxHeartbeats 4000000
set_option maxRecDepth 20000

/-- What Do leaves, its answer P under a name. -/
def DidPost (P : List S40 × S34) (k : Int) (w : World) (e : Ending) (w' : World) : Prop :=
  ∃ va A n, e = .returned (.tuple #[va, .agg #[.int .i64 0, .int .u8 k, .int .i64 P.2.f2, .int .u64 0, .bool P.2.f4, .string P.2.f5, .slice A P.2.f6.length n]]) ∧
    (∃ V c, va = .slice V P.1.length c ∧ P.1.length ≤ c ∧ Kd.C k40 w' V P.1.length P.1) ∧ Kd.C k40 w' A P.2.f6.length P.2.f6 ∧ Below w.heap.size w w'
theorem Do_did {P : List S40 × S34} (A : Option Addr) (c : Nat) (l : List S40) (x : S26) (w : World) (HR : Kd.C k40 w A l.length l) (hc : l.length ≤ c) (hl : l.length < 4398046511102) (hP : doS l x = P) :
    Calls Try.prog 11 #[.slice A l.length c, .agg (cellsC x)] w (DidPost P x.f0 w) := by
  subst hP
  refine (Do_calls A c l x w HR hc hl).mono ?_
  rintro e w1 ⟨va, vc, rfl, hva, hvc, -, hb⟩
  obtain ⟨A4, n4, rfl, -, cap4, ho4⟩ := hvc
  obtain ⟨V, m, rfl, hm, hC⟩ := Kd.R_reads hva
  exact ⟨_, A4, n4, rfl, ⟨V, m, rfl, hm, hC⟩, (Kd.R_reads' ho4).2.2, hb⟩
theorem Diff_nil {A B : Option Addr} {c d : Nat} {l m : List S40} (w : World) (HL : Kd.C k40 w A l.length l) (HM : Kd.C k40 w B m.length m) (hl : l.length < 1099511627776) (hm : m.length < 1099511627776) (h : l = m) :
    Calls Try.prog 17 #[.slice A l.length c, .slice B m.length d] w (fun e w' => (∃ V n, e = .returned (.slice V 0 n)) ∧ Below w.heap.size w w') := by
  refine (Diff_calls A B c d l m w HL HM hl hm).mono ?_
  rintro e w1 ⟨v, rfl, ho, hb⟩
  subst h
  rw [diff_same] at ho
  refine ⟨?_, hb⟩
  rcases ho.2 with ⟨h1, h2⟩ | ⟨g, cap, cur, h1, _⟩
  · exact ⟨none, 0, by rw [h1]⟩
  · exact ⟨_, _, by rw [h1]; rfl⟩

theorem Apart_calls (A : Option Addr) (c : Nat) (l : List S40) (x y : S26) (w : World) (HR : Kd.C k40 w A l.length l) (hc : l.length ≤ c) :
    Calls Try.prog 4 #[.slice A l.length c, .agg (cellsC x), .agg (cellsC y)] w (fun e w' => e = .returned (.bool true) ∧ Below w.heap.size w w') := by
  have HR0 := Aside0.mk HR
  have HC := Aside0.mk hc
  clear HR hc
  unfold cellsC
  have HB := Aside0.mk (below_alloc (below_alloc (Below.refl w.heap.size w) (.cells #[.int .u8 x.f0, .string x.f1, .string x.f2, .string x.f3.f0, .string x.f3.f1, .bool x.f3.f2, .int .i64 x.f4] 26 (0, 0))) (.cells #[.int .u8 y.f0, .string y.f1, .string y.f2, .string y.f3.f0, .string y.f3.f1, .bool y.f3.f2, .int .i64 y.f4] 26 (0, 0)))
  have HX := Aside0.mk (blk_below (heap_new w (.cells #[.int .u8 x.f0, .string x.f1, .string x.f2, .string x.f3.f0, .string x.f3.f1, .bool x.f3.f2, .int .i64 x.f4] 26 (0, 0))) (below_alloc (Below.refl _ (w.alloc (.cells #[.int .u8 x.f0, .string x.f1, .string x.f2, .string x.f3.f0, .string x.f3.f1, .bool x.f3.f2, .int .i64 x.f4] 26 (0, 0)))) (.cells #[.int .u8 y.f0, .string y.f1, .string y.f2, .string y.f3.f0, .string y.f3.f1, .bool y.f3.f2, .int .i64 y.f4] 26 (0, 0))))
  have HY := Aside0.mk (heap_new (w.alloc (.cells #[.int .u8 x.f0, .string x.f1, .string x.f2, .string x.f3.f0, .string x.f3.f1, .bool x.f3.f2, .int .i64 x.f4] 26 (0, 0))) (.cells #[.int .u8 y.f0, .string y.f1, .string y.f2, .string y.f3.f0, .string y.f3.f1, .bool y.f3.f2, .int .i64 y.f4] 26 (0, 0)))
  rw [World.size_alloc] at HY
  go_enter Try.func4, Try.ntmps4
  go_wp2_with fail
  refine (great_calls A c l _ (Kd.C_below HR0.out HB.out)).mono ?_
  rintro e w1 ⟨⟨bg, rfl, hbg⟩, NB⟩
  have HBG := Aside0.mk hbg
  clear hbg
  have HB := Aside0.mk (HB.out.trans (NB.mono HB.out.size))
  have HX := Aside0.mk (blk_below HX.out NB)
  have HY := Aside0.mk (blk_below HY.out NB)
  clear NB
  cases bg with
  | true =>
    go_wp2_with fail
    refine (head_calls _).mono ?_
    rintro e w2 ⟨rfl, hb⟩
    go_wp2
    go_ret
    exact ⟨rfl, HB.out.trans (hb.mono HB.out.size)⟩
  | false =>
    have h40 := HBG.out rfl
    clear HBG
    go_wp2_with fail
    refine (ref10_Right_calls A c l _ (Kd.C_below HR0.out HB.out)).mono ?_
    rintro e w2 ⟨he, NB⟩
    have HB := Aside0.mk (HB.out.trans (NB.mono HB.out.size))
    have HX := Aside0.mk (blk_below HX.out NB)
    have HY := Aside0.mk (blk_below HY.out NB)
    clear NB
    cases hr : rightB l with
    | false =>
      rw [hr] at he
      obtain rfl := he
      clear hr
      go_wp2_with fail
      refine (head_calls _).mono ?_
      rintro e w3 ⟨rfl, hb⟩
      go_wp2
      go_ret
      exact ⟨rfl, HB.out.trans (hb.mono HB.out.size)⟩
    | true =>
      rw [hr] at he
      obtain rfl := he
      have Hr := Aside0.mk hr
      clear hr
      have x0 := (blk_cell HX.out 0).trans rfl
      have x1 := (blk_cell HX.out 1).trans rfl
      have x2 := (blk_cell HX.out 2).trans rfl
      have x3 := (blk_cell HX.out 3).trans rfl
      have x4 := (blk_cell HX.out 4).trans rfl
      have x5 := (blk_cell HX.out 5).trans rfl
      have x6 := (blk_cell HX.out 6).trans rfl
      go_wp2_with fail
      refine (Small_calls x _).mono ?_
      rintro e w3 ⟨⟨bs, rfl⟩, NB⟩
      have HB := Aside0.mk (HB.out.trans (NB.mono HB.out.size))
      have HX := Aside0.mk (blk_below HX.out NB)
      have HY := Aside0.mk (blk_below HY.out NB)
      clear NB
      clear x0 x1 x2 x3 x4 x5 x6
      cases bs with
      | false =>
        go_wp2_with fail
        refine (head_calls _).mono ?_
        rintro e w3h ⟨rfl, hb⟩
        go_wp2
        go_ret
        exact ⟨rfl, HB.out.trans (hb.mono HB.out.size)⟩
      | true =>
        have y0 := (blk_cell HY.out 0).trans rfl
        have y1 := (blk_cell HY.out 1).trans rfl
        have y2 := (blk_cell HY.out 2).trans rfl
        have y3 := (blk_cell HY.out 3).trans rfl
        have y4 := (blk_cell HY.out 4).trans rfl
        have y5 := (blk_cell HY.out 5).trans rfl
        have y6 := (blk_cell HY.out 6).trans rfl
        go_wp2_with fail
        refine (Small_calls y _).mono ?_
        rintro e w4 ⟨⟨bs, rfl⟩, NB⟩
        have HB := Aside0.mk (HB.out.trans (NB.mono HB.out.size))
        have HX := Aside0.mk (blk_below HX.out NB)
        have HY := Aside0.mk (blk_below HY.out NB)
        clear NB
        clear y0 y1 y2 y3 y4 y5 y6
        cases bs with
        | false =>
          go_wp2_with fail
          refine (head_calls _).mono ?_
          rintro e w4h ⟨rfl, hb⟩
          go_wp2
          go_ret
          exact ⟨rfl, HB.out.trans (hb.mono HB.out.size)⟩
        | true =>
          have x0 := (blk_cell HX.out 0).trans rfl
          have x1 := (blk_cell HX.out 1).trans rfl
          have y0 := (blk_cell HY.out 0).trans rfl
          have y1 := (blk_cell HY.out 1).trans rfl
          cases h6x : (x.f0 == 6) with
          | true =>
            go_wp2_with fail
            refine (head_calls _).mono ?_
            rintro e w5h ⟨rfl, hb⟩
            go_wp2
            go_ret
            exact ⟨rfl, HB.out.trans (hb.mono HB.out.size)⟩
          | false =>
            cases h6y : (y.f0 == 6) with
            | true =>
              go_wp2_with fail
              refine (head_calls _).mono ?_
              rintro e w5h ⟨rfl, hb⟩
              go_wp2
              go_ret
              exact ⟨rfl, HB.out.trans (hb.mono HB.out.size)⟩
            | false =>
              cases hk : (x.f1.toList == y.f1.toList) with
              | true =>
                go_wp2_with fail
                refine (head_calls _).mono ?_
                rintro e w5h ⟨rfl, hb⟩
                go_wp2
                go_ret
                exact ⟨rfl, HB.out.trans (hb.mono HB.out.size)⟩
              | false =>
                have law := apart_law (x := x) (y := y) Hr.out (beq_eq_false_iff_ne.1 h6x) (beq_eq_false_iff_ne.1 h6y) (fun e => beq_eq_false_iff_ne.1 hk (by rw [e]))
                have len1 := do_len (l := l) x
                have len2 := do_len (l := l) y
                have len3 := do_len (l := (doS l x).1) y
                have kk := do_right (l := l) x Hr.out
                obtain ⟨P, hP⟩ : ∃ P, doS l x = P := ⟨_, rfl⟩
                obtain ⟨Q, hQ⟩ : ∃ Q, doS l y = Q := ⟨_, rfl⟩
                rw [hP, hQ] at law
                rw [hP] at len1 len3
                rw [hQ] at len2
                obtain ⟨S, hS⟩ : ∃ S, doS P.1 y = S := ⟨_, rfl⟩
                obtain ⟨U, hU⟩ : ∃ U, doS Q.1 x = U := ⟨_, rfl⟩
                rw [hS, hU] at law
                rw [hS] at len3
                have lP : P.1.length < 100 := by omega
                have lQ : Q.1.length < 100 := by omega
                have lS : S.1.length < 100 := by omega
                have lU : U.1.length < 100 := by rw [← law.1]; exact lS
                have HP := Aside0.mk hP
                have HQ := Aside0.mk hQ
                have HS := Aside0.mk hS
                have HU := Aside0.mk hU
                have LAW := Aside0.mk law
                have HG := Aside0.mk (get_same (l := l) (x := ⟨2, x.f1, ⟨#[]⟩, ⟨⟨#[]⟩, ⟨#[]⟩, false⟩, 0⟩) Hr.out rfl)
                have HF := Aside0.mk (scan_same (l := l) (x := ⟨6, ⟨#[]⟩, ⟨#[]⟩, ⟨⟨#[]⟩, ⟨#[]⟩, false⟩, 5⟩) Hr.out rfl)
                clear law len1 len2 len3 kk hP hQ hS hU
                have HR0 := Aside0.mk (Kd.C_below HR0.out HB.out)
                have x2 := (blk_cell HX.out 2).trans rfl
                have x3 := (blk_cell HX.out 3).trans rfl
                have x4 := (blk_cell HX.out 4).trans rfl
                have x5 := (blk_cell HX.out 5).trans rfl
                have x6 := (blk_cell HX.out 6).trans rfl
                go_wp2_with fail
                refine (Do_did (P := P) A c l x _ HR0.out HC.out (by omega) HP.out).mono ?_
                rintro e v1 ⟨va, Ja, nJa, rfl, ⟨Va, ca, rfl, la, hv⟩, hk2, hb⟩
                have NB := below_alloc hb (.cells #[.int .i64 0, .int .u8 x.f0, .int .i64 P.2.f2, .int .u64 0, .bool P.2.f4, .string P.2.f5, .slice Ja P.2.f6.length nJa] 34 (0, 0))
                have CVa := Aside0.mk (Kd.C_alloc hv (.cells #[.int .i64 0, .int .u8 x.f0, .int .i64 P.2.f2, .int .u64 0, .bool P.2.f4, .string P.2.f5, .slice Ja P.2.f6.length nJa] 34 (0, 0)))
                have CKa := Aside0.mk (Kd.C_alloc hk2 (.cells #[.int .i64 0, .int .u8 x.f0, .int .i64 P.2.f2, .int .u64 0, .bool P.2.f4, .string P.2.f5, .slice Ja P.2.f6.length nJa] 34 (0, 0)))
                have Ra := Aside0.mk (heap_new v1 (.cells #[.int .i64 0, .int .u8 x.f0, .int .i64 P.2.f2, .int .u64 0, .bool P.2.f4, .string P.2.f5, .slice Ja P.2.f6.length nJa] 34 (0, 0)))
                have HB := Aside0.mk (HB.out.trans (NB.mono HB.out.size))
                have HX := Aside0.mk (blk_below HX.out NB)
                have HY := Aside0.mk (blk_below HY.out NB)
                have HR0 := Aside0.mk (Kd.C_below HR0.out NB)
                clear hb hv hk2 NB
                clear x0 x1 x2 x3 x4 x5 x6
                clear y0 y1
                have La := Aside0.mk la
                clear la
                have y0 := (blk_cell HY.out 0).trans rfl
                have y1 := (blk_cell HY.out 1).trans rfl
                have y2 := (blk_cell HY.out 2).trans rfl
                have y3 := (blk_cell HY.out 3).trans rfl
                have y4 := (blk_cell HY.out 4).trans rfl
                have y5 := (blk_cell HY.out 5).trans rfl
                have y6 := (blk_cell HY.out 6).trans rfl
                go_wp2_with fail
                refine (Do_did (P := S) Va ca P.1 y _ CVa.out La.out (by omega) HS.out).mono ?_
                rintro e v2 ⟨va, Jb, nJb, rfl, ⟨Vb, cb, rfl, lb, hv⟩, hk2, hb⟩
                have NB := below_alloc hb (.cells #[.int .i64 0, .int .u8 y.f0, .int .i64 S.2.f2, .int .u64 0, .bool S.2.f4, .string S.2.f5, .slice Jb S.2.f6.length nJb] 34 (0, 0))
                have CVb := Aside0.mk (Kd.C_alloc hv (.cells #[.int .i64 0, .int .u8 y.f0, .int .i64 S.2.f2, .int .u64 0, .bool S.2.f4, .string S.2.f5, .slice Jb S.2.f6.length nJb] 34 (0, 0)))
                have CKb := Aside0.mk (Kd.C_alloc hk2 (.cells #[.int .i64 0, .int .u8 y.f0, .int .i64 S.2.f2, .int .u64 0, .bool S.2.f4, .string S.2.f5, .slice Jb S.2.f6.length nJb] 34 (0, 0)))
                have Rb := Aside0.mk (heap_new v2 (.cells #[.int .i64 0, .int .u8 y.f0, .int .i64 S.2.f2, .int .u64 0, .bool S.2.f4, .string S.2.f5, .slice Jb S.2.f6.length nJb] 34 (0, 0)))
                have HB := Aside0.mk (HB.out.trans (NB.mono HB.out.size))
                have HX := Aside0.mk (blk_below HX.out NB)
                have HY := Aside0.mk (blk_below HY.out NB)
                have HR0 := Aside0.mk (Kd.C_below HR0.out NB)
                have CVa := Aside0.mk (Kd.C_below CVa.out NB)
                have CKa := Aside0.mk (Kd.C_below CKa.out NB)
                have Ra := Aside0.mk (blk_below Ra.out NB)
                clear hb hv hk2 NB
                clear y0 y1 y2 y3 y4 y5 y6
                have y0 := (blk_cell HY.out 0).trans rfl
                have y1 := (blk_cell HY.out 1).trans rfl
                have y2 := (blk_cell HY.out 2).trans rfl
                have y3 := (blk_cell HY.out 3).trans rfl
                have y4 := (blk_cell HY.out 4).trans rfl
                have y5 := (blk_cell HY.out 5).trans rfl
                have y6 := (blk_cell HY.out 6).trans rfl
                go_wp2_with fail
                refine (Do_did (P := Q) A c l y _ HR0.out HC.out (by omega) HQ.out).mono ?_
                rintro e v3 ⟨va, Jc, nJc, rfl, ⟨Vc, cc, rfl, lc, hv⟩, hk2, hb⟩
                have NB := below_alloc hb (.cells #[.int .i64 0, .int .u8 y.f0, .int .i64 Q.2.f2, .int .u64 0, .bool Q.2.f4, .string Q.2.f5, .slice Jc Q.2.f6.length nJc] 34 (0, 0))
                have CVc := Aside0.mk (Kd.C_alloc hv (.cells #[.int .i64 0, .int .u8 y.f0, .int .i64 Q.2.f2, .int .u64 0, .bool Q.2.f4, .string Q.2.f5, .slice Jc Q.2.f6.length nJc] 34 (0, 0)))
                have CKc := Aside0.mk (Kd.C_alloc hk2 (.cells #[.int .i64 0, .int .u8 y.f0, .int .i64 Q.2.f2, .int .u64 0, .bool Q.2.f4, .string Q.2.f5, .slice Jc Q.2.f6.length nJc] 34 (0, 0)))
                have Rc := Aside0.mk (heap_new v3 (.cells #[.int .i64 0, .int .u8 y.f0, .int .i64 Q.2.f2, .int .u64 0, .bool Q.2.f4, .string Q.2.f5, .slice Jc Q.2.f6.length nJc] 34 (0, 0)))
                have HB := Aside0.mk (HB.out.trans (NB.mono HB.out.size))
                have HX := Aside0.mk (blk_below HX.out NB)
                have HY := Aside0.mk (blk_below HY.out NB)
                have HR0 := Aside0.mk (Kd.C_below HR0.out NB)
                have CVa := Aside0.mk (Kd.C_below CVa.out NB)
                have CKa := Aside0.mk (Kd.C_below CKa.out NB)
                have Ra := Aside0.mk (blk_below Ra.out NB)
                have CVb := Aside0.mk (Kd.C_below CVb.out NB)
                have CKb := Aside0.mk (Kd.C_below CKb.out NB)
                have Rb := Aside0.mk (blk_below Rb.out NB)
                clear hb hv hk2 NB
                clear y0 y1 y2 y3 y4 y5 y6
                have Lc := Aside0.mk lc
                clear lc
                have x0 := (blk_cell HX.out 0).trans rfl
                have x1 := (blk_cell HX.out 1).trans rfl
                have x2 := (blk_cell HX.out 2).trans rfl
                have x3 := (blk_cell HX.out 3).trans rfl
                have x4 := (blk_cell HX.out 4).trans rfl
                have x5 := (blk_cell HX.out 5).trans rfl
                have x6 := (blk_cell HX.out 6).trans rfl
                go_wp2_with fail
                refine (Do_did (P := U) Vc cc Q.1 x _ CVc.out Lc.out (by omega) HU.out).mono ?_
                rintro e v4 ⟨va, Jd, nJd, rfl, ⟨Vd, cd, rfl, ld, hv⟩, hk2, hb⟩
                have NB := below_alloc hb (.cells #[.int .i64 0, .int .u8 x.f0, .int .i64 U.2.f2, .int .u64 0, .bool U.2.f4, .string U.2.f5, .slice Jd U.2.f6.length nJd] 34 (0, 0))
                have CVd := Aside0.mk (Kd.C_alloc hv (.cells #[.int .i64 0, .int .u8 x.f0, .int .i64 U.2.f2, .int .u64 0, .bool U.2.f4, .string U.2.f5, .slice Jd U.2.f6.length nJd] 34 (0, 0)))
                have CKd := Aside0.mk (Kd.C_alloc hk2 (.cells #[.int .i64 0, .int .u8 x.f0, .int .i64 U.2.f2, .int .u64 0, .bool U.2.f4, .string U.2.f5, .slice Jd U.2.f6.length nJd] 34 (0, 0)))
                have Rd := Aside0.mk (heap_new v4 (.cells #[.int .i64 0, .int .u8 x.f0, .int .i64 U.2.f2, .int .u64 0, .bool U.2.f4, .string U.2.f5, .slice Jd U.2.f6.length nJd] 34 (0, 0)))
                have HB := Aside0.mk (HB.out.trans (NB.mono HB.out.size))
                have HX := Aside0.mk (blk_below HX.out NB)
                have HY := Aside0.mk (blk_below HY.out NB)
                have HR0 := Aside0.mk (Kd.C_below HR0.out NB)
                have CVa := Aside0.mk (Kd.C_below CVa.out NB)
                have CKa := Aside0.mk (Kd.C_below CKa.out NB)
                have Ra := Aside0.mk (blk_below Ra.out NB)
                have CVb := Aside0.mk (Kd.C_below CVb.out NB)
                have CKb := Aside0.mk (Kd.C_below CKb.out NB)
                have Rb := Aside0.mk (blk_below Rb.out NB)
                have CVc := Aside0.mk (Kd.C_below CVc.out NB)
                have CKc := Aside0.mk (Kd.C_below CKc.out NB)
                have Rc := Aside0.mk (blk_below Rc.out NB)
                clear hb hv hk2 NB
                clear x0 x1 x2 x3 x4 x5 x6
                clear lb ld
                have r0 := (blk_cell Ra.out 0).trans rfl
                have r1 := (blk_cell Ra.out 1).trans rfl
                have r2 := (blk_cell Ra.out 2).trans rfl
                have r3 := (blk_cell Ra.out 3).trans rfl
                have r4 := (blk_cell Ra.out 4).trans rfl
                have r5 := (blk_cell Ra.out 5).trans rfl
                have r6 := (blk_cell Ra.out 6).trans rfl
                have q0 := (blk_cell Rd.out 0).trans rfl
                have q1 := (blk_cell Rd.out 1).trans rfl
                have q2 := (blk_cell Rd.out 2).trans rfl
                have q3 := (blk_cell Rd.out 3).trans rfl
                have q4 := (blk_cell Rd.out 4).trans rfl
                have q5 := (blk_cell Rd.out 5).trans rfl
                have q6 := (blk_cell Rd.out 6).trans rfl
                go_wp2_with fail
                refine (modelSame_calls Ja Jd nJa nJd ⟨0, x.f0, P.2.f2, 0, P.2.f4, P.2.f5, P.2.f6⟩ ⟨0, x.f0, U.2.f2, 0, U.2.f4, U.2.f5, U.2.f6⟩ _ CKa.out CKd.out).mono ?_
                rintro e v5 ⟨⟨b, rfl, hbb⟩, NB⟩
                obtain rfl : b = true := hbb.2 (by rw [LAW.out.2.1]; exact ⟨rfl, rfl, rfl, rfl, rfl⟩)
                have HB := Aside0.mk (HB.out.trans (NB.mono HB.out.size))
                have HX := Aside0.mk (blk_below HX.out NB)
                have HY := Aside0.mk (blk_below HY.out NB)
                have HR0 := Aside0.mk (Kd.C_below HR0.out NB)
                have CVa := Aside0.mk (Kd.C_below CVa.out NB)
                have CKa := Aside0.mk (Kd.C_below CKa.out NB)
                have Ra := Aside0.mk (blk_below Ra.out NB)
                have CVb := Aside0.mk (Kd.C_below CVb.out NB)
                have CKb := Aside0.mk (Kd.C_below CKb.out NB)
                have Rb := Aside0.mk (blk_below Rb.out NB)
                have CVc := Aside0.mk (Kd.C_below CVc.out NB)
                have CKc := Aside0.mk (Kd.C_below CKc.out NB)
                have Rc := Aside0.mk (blk_below Rc.out NB)
                have CVd := Aside0.mk (Kd.C_below CVd.out NB)
                have CKd := Aside0.mk (Kd.C_below CKd.out NB)
                have Rd := Aside0.mk (blk_below Rd.out NB)
                clear NB hbb
                clear r0 r1 r2 r3 r4 r5 r6 q0 q1 q2 q3 q4 q5 q6
                have r0 := (blk_cell Rb.out 0).trans rfl
                have r1 := (blk_cell Rb.out 1).trans rfl
                have r2 := (blk_cell Rb.out 2).trans rfl
                have r3 := (blk_cell Rb.out 3).trans rfl
                have r4 := (blk_cell Rb.out 4).trans rfl
                have r5 := (blk_cell Rb.out 5).trans rfl
                have r6 := (blk_cell Rb.out 6).trans rfl
                have q0 := (blk_cell Rc.out 0).trans rfl
                have q1 := (blk_cell Rc.out 1).trans rfl
                have q2 := (blk_cell Rc.out 2).trans rfl
                have q3 := (blk_cell Rc.out 3).trans rfl
                have q4 := (blk_cell Rc.out 4).trans rfl
                have q5 := (blk_cell Rc.out 5).trans rfl
                have q6 := (blk_cell Rc.out 6).trans rfl
                go_wp2_with fail
                refine (modelSame_calls Jb Jc nJb nJc ⟨0, y.f0, S.2.f2, 0, S.2.f4, S.2.f5, S.2.f6⟩ ⟨0, y.f0, Q.2.f2, 0, Q.2.f4, Q.2.f5, Q.2.f6⟩ _ CKb.out CKc.out).mono ?_
                rintro e v6 ⟨⟨b, rfl, hbb⟩, NB⟩
                obtain rfl : b = true := hbb.2 (by rw [LAW.out.2.2]; exact ⟨rfl, rfl, rfl, rfl, rfl⟩)
                have HB := Aside0.mk (HB.out.trans (NB.mono HB.out.size))
                have HX := Aside0.mk (blk_below HX.out NB)
                have HY := Aside0.mk (blk_below HY.out NB)
                have HR0 := Aside0.mk (Kd.C_below HR0.out NB)
                have CVa := Aside0.mk (Kd.C_below CVa.out NB)
                have CKa := Aside0.mk (Kd.C_below CKa.out NB)
                have Ra := Aside0.mk (blk_below Ra.out NB)
                have CVb := Aside0.mk (Kd.C_below CVb.out NB)
                have CKb := Aside0.mk (Kd.C_below CKb.out NB)
                have Rb := Aside0.mk (blk_below Rb.out NB)
                have CVc := Aside0.mk (Kd.C_below CVc.out NB)
                have CKc := Aside0.mk (Kd.C_below CKc.out NB)
                have Rc := Aside0.mk (blk_below Rc.out NB)
                have CVd := Aside0.mk (Kd.C_below CVd.out NB)
                have CKd := Aside0.mk (Kd.C_below CKd.out NB)
                have Rd := Aside0.mk (blk_below Rd.out NB)
                clear NB hbb
                clear r0 r1 r2 r3 r4 r5 r6 q0 q1 q2 q3 q4 q5 q6
                clear Ra Rb Rc Rd CKa CKb CKc CKd CVa CVc
                go_wp2_with fail
                refine (Diff_nil _ CVb.out CVd.out (by omega) (by omega) LAW.out.1).mono ?_
                rintro e v7 ⟨⟨V7, n7, rfl⟩, NB⟩
                have HB := Aside0.mk (HB.out.trans (NB.mono HB.out.size))
                have HX := Aside0.mk (blk_below HX.out NB)
                have HY := Aside0.mk (blk_below HY.out NB)
                have HR0 := Aside0.mk (Kd.C_below HR0.out NB)
                have CVb := Aside0.mk (Kd.C_below CVb.out NB)
                have CVd := Aside0.mk (Kd.C_below CVd.out NB)
                clear NB
                have hlen : (S.1.length != U.1.length) = false := by rw [LAW.out.1]; simp
                have hlen2 : ((S.1.length : Int) != (U.1.length : Int)) = false := by rw [LAW.out.1]; simp
                have x1 := (blk_cell HX.out 1).trans rfl
                clear CVb CVd
                obtain ⟨G, hG⟩ : ∃ G, doS l ⟨2, x.f1, ⟨#[]⟩, ⟨⟨#[]⟩, ⟨#[]⟩, false⟩, 0⟩ = G := ⟨_, rfl⟩
                have EG := Aside0.mk (show G.1 = l by rw [← hG]; exact HG.out)
                have lG : G.1.length < 100 := by rw [EG.out]; omega
                have HGG := Aside0.mk hG
                clear hG
                go_wp2_with fail
                refine (Do_did (P := G) A c l ⟨2, x.f1, ⟨#[]⟩, ⟨⟨#[]⟩, ⟨#[]⟩, false⟩, 0⟩ _ HR0.out HC.out (by omega) HGG.out).mono ?_
                rintro e v8 ⟨va, Je, nJe, rfl, ⟨Ve, ce, rfl, le, hv⟩, hk2, hb⟩
                have NB := below_alloc hb (.cells #[.int .i64 0, .int .u8 2, .int .i64 G.2.f2, .int .u64 0, .bool G.2.f4, .string G.2.f5, .slice Je G.2.f6.length nJe] 34 (0, 0))
                have CVe := Aside0.mk (Kd.C_alloc hv (.cells #[.int .i64 0, .int .u8 2, .int .i64 G.2.f2, .int .u64 0, .bool G.2.f4, .string G.2.f5, .slice Je G.2.f6.length nJe] 34 (0, 0)))
                have CKe := Aside0.mk (Kd.C_alloc hk2 (.cells #[.int .i64 0, .int .u8 2, .int .i64 G.2.f2, .int .u64 0, .bool G.2.f4, .string G.2.f5, .slice Je G.2.f6.length nJe] 34 (0, 0)))
                have Re := Aside0.mk (heap_new v8 (.cells #[.int .i64 0, .int .u8 2, .int .i64 G.2.f2, .int .u64 0, .bool G.2.f4, .string G.2.f5, .slice Je G.2.f6.length nJe] 34 (0, 0)))
                have HB := Aside0.mk (HB.out.trans (NB.mono HB.out.size))
                have HX := Aside0.mk (blk_below HX.out NB)
                have HY := Aside0.mk (blk_below HY.out NB)
                have HR0 := Aside0.mk (Kd.C_below HR0.out NB)
                clear hb hv hk2 NB
                clear hlen hlen2 x1
                obtain ⟨F, hF⟩ : ∃ F, doS l ⟨6, ⟨#[]⟩, ⟨#[]⟩, ⟨⟨#[]⟩, ⟨#[]⟩, false⟩, 5⟩ = F := ⟨_, rfl⟩
                have EF := Aside0.mk (show F.1 = l by rw [← hF]; exact HF.out)
                have lF : F.1.length < 100 := by rw [EF.out]; omega
                have HFF := Aside0.mk hF
                clear hF
                go_wp2_with fail
                refine (Do_did (P := F) A c l ⟨6, ⟨#[]⟩, ⟨#[]⟩, ⟨⟨#[]⟩, ⟨#[]⟩, false⟩, 5⟩ _ HR0.out HC.out (by omega) HFF.out).mono ?_
                rintro e v9 ⟨va, Jf, nJf, rfl, ⟨Vf, cf, rfl, lf, hv⟩, hk2, hb⟩
                have NB := below_alloc hb (.cells #[.int .i64 0, .int .u8 6, .int .i64 F.2.f2, .int .u64 0, .bool F.2.f4, .string F.2.f5, .slice Jf F.2.f6.length nJf] 34 (0, 0))
                have CVf := Aside0.mk (Kd.C_alloc hv (.cells #[.int .i64 0, .int .u8 6, .int .i64 F.2.f2, .int .u64 0, .bool F.2.f4, .string F.2.f5, .slice Jf F.2.f6.length nJf] 34 (0, 0)))
                have CKf := Aside0.mk (Kd.C_alloc hk2 (.cells #[.int .i64 0, .int .u8 6, .int .i64 F.2.f2, .int .u64 0, .bool F.2.f4, .string F.2.f5, .slice Jf F.2.f6.length nJf] 34 (0, 0)))
                have Rf := Aside0.mk (heap_new v9 (.cells #[.int .i64 0, .int .u8 6, .int .i64 F.2.f2, .int .u64 0, .bool F.2.f4, .string F.2.f5, .slice Jf F.2.f6.length nJf] 34 (0, 0)))
                have HB := Aside0.mk (HB.out.trans (NB.mono HB.out.size))
                have HX := Aside0.mk (blk_below HX.out NB)
                have HY := Aside0.mk (blk_below HY.out NB)
                have HR0 := Aside0.mk (Kd.C_below HR0.out NB)
                have CVe := Aside0.mk (Kd.C_below CVe.out NB)
                have CKe := Aside0.mk (Kd.C_below CKe.out NB)
                have Re := Aside0.mk (blk_below Re.out NB)
                clear hb hv hk2 NB
                clear CKe CKf Re Rf
                clear le lf
                go_wp2_with fail
                refine (Diff_nil _ CVe.out HR0.out (by omega) (by omega) EG.out).mono ?_
                rintro e v10 ⟨⟨V8, n8, rfl⟩, NB⟩
                have HB := Aside0.mk (HB.out.trans (NB.mono HB.out.size))
                have HX := Aside0.mk (blk_below HX.out NB)
                have HY := Aside0.mk (blk_below HY.out NB)
                have HR0 := Aside0.mk (Kd.C_below HR0.out NB)
                have CVe := Aside0.mk (Kd.C_below CVe.out NB)
                have CVf := Aside0.mk (Kd.C_below CVf.out NB)
                clear NB
                have hlen : ((G.1.length : Int) == (l.length : Int)) = true := by rw [EG.out]; simp
                have hlen2 : (G.1.length == l.length) = true := by rw [EG.out]; simp
                go_wp2_with fail
                refine (Diff_nil _ CVf.out HR0.out (by omega) (by omega) EF.out).mono ?_
                rintro e v11 ⟨⟨V9, n9, rfl⟩, NB⟩
                have HB := Aside0.mk (HB.out.trans (NB.mono HB.out.size))
                have HX := Aside0.mk (blk_below HX.out NB)
                have HY := Aside0.mk (blk_below HY.out NB)
                have HR0 := Aside0.mk (Kd.C_below HR0.out NB)
                have CVe := Aside0.mk (Kd.C_below CVe.out NB)
                have CVf := Aside0.mk (Kd.C_below CVf.out NB)
                clear NB hlen hlen2
                have hlen : ((F.1.length : Int) == (l.length : Int)) = true := by rw [EF.out]; simp
                have hlen2 : (F.1.length == l.length) = true := by rw [EF.out]; simp
                go_wp2_with fail
                refine (head_calls _).mono ?_
                rintro e v12 ⟨rfl, hb⟩
                go_wp2
                go_ret
                exact ⟨rfl, HB.out.trans (hb.mono HB.out.size)⟩
end Go.Proofs.Ytcnmefocbjilbaa.G
namespace Go.Proofs.Ytcnmefocbjilbaa.ApartRow
open Go.ChangeShapes Go.WideShapes Go.ChangeAt Go.RowKit Go.Proofs.YtcnmefocbjilbaaW.PrintWords
open Go.ChangeMaps (open_string shut_string)
theorem own : ownKnob Try.prog.godebug = none := by kernel_rfl
theorem laidOut : laidOutB Try.prog = true := by kernel_rfl
set_option maxRecDepth 100000 in
theorem lifted (os : Os) (started : os.Started) (H : Type) (enc : TypeId × Value → H) :
    ReturnsInHanded {} Try.checked os 4 .any (Rows.modelApartSpec.pre6 enc Try.prog Try.f4 Rows.modelApartRow.domain false) (Rows.modelApartSpec.post enc Try.prog Try.f4 false true false false) := by
  refine returnsInHanded_of_change_sized (C := Try.checked) own started (by kernel_rfl) Try.func4
    (ChangeSpec.witness6 (enc := enc) (C := Try.checked) false ⟨#[], #[.slice none 0 0, .agg #[.int .u8 0, .string ByteArray.empty, .string ByteArray.empty, .string ByteArray.empty, .string ByteArray.empty, .bool false, .int .i64 0], .agg #[.int .u8 0, .string ByteArray.empty, .string ByteArray.empty, .string ByteArray.empty, .string ByteArray.empty, .bool false, .int .i64 0]], []⟩ 8 (by kernel_rfl) (by kernel_rfl) (by kernel_rfl) (by kernel_rfl)) ?_
  intro W base args ds gs before hval0 hW hcnd hsz0 _
  have hval : ∀ (j : Nat) t v, Try.f4.params[j]? = some t → args[j]? = some v → Value.okWide Try.prog W .any base t v := hval0
  have hW' := hW
  obtain ⟨p, q, hA0, hV, rfl, hfz, hnd⟩ := hW
  have hA : DataW.TrodAll enc Try.prog W 0 (fun _ => true) true Try.f4.params.toList args.toList ds p := hA0
  rw [Try.params4] at hA hval
  obtain ⟨v0, vs0, d0, ds0, p0, q0, hargs, rfl, rfl, h0, r0⟩ := trodAll_cons hA
  obtain ⟨v1, vs1, d1, ds1, p1, q1, rfl, rfl, rfl, h1, r1⟩ := trodAll_cons r0
  obtain ⟨v2, vs2, d2, ds2, p2, q2, rfl, rfl, rfl, h2, r2⟩ := trodAll_cons r1
  obtain ⟨rfl, rfl, rfl⟩ := trodAll_nil r2
  obtain rfl : args = #[v0, v1, v2] := by cases args; simp_all
  obtain ⟨rfl, rfl⟩ := trodVars_none hV
  have k0 := h0
  have lt0 : ∀ x ∈ p0, x.block < W.heap.size := by obtain ⟨m, hm⟩ := k0; exact DataW.trod_lt m _ _ _ hm
  have k1 := h1
  have lt1 : ∀ x ∈ p1, x.block < W.heap.size := by obtain ⟨m, hm⟩ := k1; exact DataW.trod_lt m _ _ _ hm
  have k2 := h2
  have lt2 : ∀ x ∈ p2, x.block < W.heap.size := by obtain ⟨m, hm⟩ := k2; exact DataW.trod_lt m _ _ _ hm
  obtain ⟨A, n, c, rfl⟩ := okWide_slice Try.underlying22 (hval 0 22 v0 rfl rfl)
  obtain ⟨l, rfl, hcl, HR⟩ : ∃ l : List G.S40, n = l.length ∧ l.length ≤ c ∧ Kd.C G.k40 W A l.length l := G.open_cells h0
  obtain ⟨x, rfl⟩ : ∃ x : G.S26, v1 = .agg (G.cellsC x) := G.open_call (hval 1 26 v1 rfl rfl) h1
  obtain ⟨y, rfl⟩ : ∃ y : G.S26, v2 = .agg (G.cellsC y) := G.open_call (hval 2 26 v2 rfl rfl) h2
  clear hA0 hval0 hsz0
  refine (G.Apart_calls A c l x y W HR hcl).mono fun e W' ⟨he, bel⟩ => ?_
  subst he
  exact ⟨_, rfl, _, _, _, [], _, [], hW', trodAll_mk1 (shut_bool Try.underlying4 _), (trodAll_cons_mk (Below.trod laidOut (by kernel_rfl) (of_decide_eq_true (by kernel_rfl)) k0 bel lt0) (trodAll_cons_mk (Below.trod laidOut (by kernel_rfl) (of_decide_eq_true (by kernel_rfl)) k1 bel lt1) (trodAll_cons_mk (Below.trod laidOut (by kernel_rfl) (of_decide_eq_true (by kernel_rfl)) k2 bel lt2) trodAll_mk0))), rfl, bel.frame _, fun h => by cases h⟩
theorem over : Rows.modelApartRow.holds Try.pinned (OpenSpec.ofChange Rows.modelApartSpec) :=
  OpenClaim.holds_of_wide 4 Try.f4 rfl rfl rfl rfl rfl rfl rfl ⟨rfl, rfl, rfl, rfl, rfl⟩ rfl rfl rfl rfl rfl (by kernel_rfl) Try.func4 (by kernel_rfl)
    (of_decide_eq_true (by kernel_rfl)) (by unfold Func.isWrapper; first | (rw [if_pos (by decide +kernel)]; kernel_rfl) | (rw [if_neg (by decide +kernel)]; exact ⟨rfl, rfl⟩))
    (fun os started H enc _ => lifted os started H enc)
theorem proved : Rows.ModelApartSaid := over
end Go.Proofs.Ytcnmefocbjilbaa.ApartRow
namespace Go.Proofs.Ytcnmefocbjilbaa
/-- The row, under a short name, for the claim. -/
theorem modelApart_holds : Rows.ModelApartSaid := ApartRow.proved
end Go.Proofs.Ytcnmefocbjilbaa
