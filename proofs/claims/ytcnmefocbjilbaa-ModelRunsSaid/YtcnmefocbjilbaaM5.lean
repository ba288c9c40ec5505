/- Part of the seat's claims: two calls apart; how deeds read; model.Run, the document's Run, model.Serial. -/
import Derived.Test.YtcnmefocbjilbaaM3
import Derived.Deep.Slices
import Derived.Test.YtcnmefocbjilbaaM2
import Derived.Test.YtcnmefocbjilbaaM1
import Derived.Test.YtcnmefocbjilbaaM4
set_option linter.unusedVariables false
set_option linter.unusedSimpArgs false
namespace Go.Proofs.Ytcnmefocbjilbaa.G
open Go.RowKit
set_option maxHeartbeats 1000000

/-! ### two calls on other keys: the plain law -/
abbrev Lt (a b : S40) : Prop := lessC a b = true
theorem right_iff (l : List S40) : rightB l = true ↔ (∀ c ∈ l, fitsB c = true) ∧ l.Pairwise Lt := by
  induction l using rightB.induct with
  | case1 => simp [rightB]
  | case2 c => simp [rightB]
  | case3 c d r ih =>
    rw [rightB, Bool.and_eq_true, Bool.and_eq_true, ih]
    simp only [List.pairwise_cons, List.mem_cons, forall_eq_or_imp]
    constructor
    · rintro ⟨⟨h1, h2⟩, ⟨h3, h4⟩, h5, h6⟩
      exact ⟨⟨h1, h3, h4⟩, ⟨h2, fun x hx => bl_trans h2 (h5 x hx)⟩, h5, h6⟩
    · rintro ⟨⟨h1, h3, h4⟩, ⟨h2, _⟩, h5, h6⟩
      exact ⟨⟨h1, h2⟩, ⟨h3, h4⟩, h5, h6⟩
theorem lt_irr (a : S40) : ¬ Lt a a := by
  unfold Lt lessC
  rw [bl_irrefl]
  decide
theorem lt_trans' {a b c : S40} (h : Lt a b) (k : Lt b c) : Lt a c := bl_trans h k
theorem lt_key {a b : S40} (h : Lt a b) : a.f0 ≠ b.f0 := by
  intro e
  unfold Lt lessC at h
  rw [e, bl_irrefl] at h
  cases h
theorem lt_or {a b : S40} (h : a.f0 ≠ b.f0) : Lt a b ∨ Lt b a := by
  unfold Lt lessC
  cases h1 : Op.bytesLess a.f0.toList b.f0.toList with
  | true => exact .inl rfl
  | false =>
    cases h2 : Op.bytesLess b.f0.toList a.f0.toList with
    | true => exact .inr rfl
    | false => exact absurd (tl_inj (bl_tri h1 h2)) h
theorem sorted_ext : ∀ {a b : List S40}, a.Pairwise Lt → b.Pairwise Lt → (∀ x, x ∈ a ↔ x ∈ b) → a = b
  | [], [], _, _, _ => rfl
  | [], y :: ys, _, _, h => absurd ((h y).2 List.mem_cons_self) (by simp)
  | x :: xs, [], _, _, h => absurd ((h x).1 List.mem_cons_self) (by simp)
  | x :: xs, y :: ys, ha, hb, h => by
    rw [List.pairwise_cons] at ha hb
    have hxy : x = y := by
      rcases List.mem_cons.1 ((h x).1 List.mem_cons_self) with e | h1
      · exact e
      · rcases List.mem_cons.1 ((h y).2 List.mem_cons_self) with e | h2
        · exact e.symm
        · exact absurd (lt_trans' (hb.1 x h1) (ha.1 y h2)) (lt_irr y)
    subst hxy
    rw [sorted_ext ha.2 hb.2 fun z => ⟨fun hz => ?_, fun hz => ?_⟩]
    · rcases List.mem_cons.1 ((h z).1 (List.mem_cons_of_mem _ hz)) with e | h1
      · subst e; exact absurd (ha.1 z hz) (lt_irr z)
      · exact h1
    · rcases List.mem_cons.1 ((h z).2 (List.mem_cons_of_mem _ hz)) with e | h1
      · subst e; exact absurd (hb.1 z hz) (lt_irr z)
      · exact h1
theorem mem_put {l : List S40} {c x : S40} : x ∈ putS l c ↔ x = c ∨ (x ∈ l ∧ x.f0 ≠ c.f0) := by
  unfold putS
  simp only [List.mem_append, List.mem_filter, List.mem_singleton]
  constructor
  · rintro ((⟨h1, h2⟩ | h) | ⟨h1, h2⟩)
    · exact .inr ⟨h1, lt_key h2⟩
    · exact .inl h
    · exact .inr ⟨h1, fun e => lt_key h2 e.symm⟩
  · rintro (h | ⟨h1, h2⟩)
    · exact .inl (.inr h)
    · rcases lt_or h2 with h3 | h3
      · exact .inl (.inl ⟨h1, h3⟩)
      · exact .inr ⟨h1, h3⟩
theorem key_iff {k : ByteArray} {x : S40} : isKey k x = true ↔ x.f0 = k := by
  unfold isKey
  rw [beq_iff_eq]
  exact ⟨tl_inj, fun h => by rw [h]⟩
theorem mem_del {l : List S40} {k : ByteArray} {x : S40} : x ∈ l.filter (fun y => !isKey k y) ↔ x ∈ l ∧ x.f0 ≠ k := by
  rw [List.mem_filter, Bool.not_eq_true', ← Bool.not_eq_true, key_iff]
theorem put_sorted {l : List S40} {c : S40} (h : l.Pairwise Lt) : (putS l c).Pairwise Lt := by
  unfold putS
  rw [List.pairwise_append, List.pairwise_append]
  refine ⟨⟨h.filter _, List.pairwise_singleton _ _, ?_⟩, h.filter _, ?_⟩
  · intro a ha b hb
    rw [List.mem_singleton] at hb
    subst hb
    exact (List.mem_filter.1 ha).2
  · intro a ha b hb
    have hb2 := (List.mem_filter.1 hb).2
    rcases List.mem_append.1 ha with ha | ha
    · exact lt_trans' (List.mem_filter.1 ha).2 hb2
    · rw [List.mem_singleton] at ha
      subst ha
      exact hb2
theorem put_right {l : List S40} {c : S40} (h : rightB l = true) (hc : fitsB c = true) : rightB (putS l c) = true := by
  rw [right_iff] at *
  refine ⟨fun x hx => ?_, put_sorted h.2⟩
  rcases mem_put.1 hx with rfl | ⟨h1, _⟩
  · exact hc
  · exact h.1 x h1
theorem filter_right {l : List S40} {p : S40 → Bool} (h : rightB l = true) : rightB (l.filter p) = true := by
  rw [right_iff] at *
  exact ⟨fun x hx => h.1 x (List.mem_filter.1 hx).1, h.2.filter _⟩
theorem one_key {l : List S40} (h : l.Pairwise Lt) {a b : S40} (ha : a ∈ l) (hb : b ∈ l) (e : a.f0 = b.f0) : a = b := by
  induction l with
  | nil => cases ha
  | cons x xs ih =>
    rw [List.pairwise_cons] at h
    rcases List.mem_cons.1 ha with rfl | ha'
    · rcases List.mem_cons.1 hb with rfl | hb'
      · rfl
      · exact absurd e (lt_key (h.1 b hb'))
    · rcases List.mem_cons.1 hb with rfl | hb'
      · exact absurd e.symm (lt_key (h.1 a ha'))
      · exact ih h.2 ha' hb'
theorem findO_iff {l : List S40} (h : rightB l = true) (k v : ByteArray) : findO l k = some v ↔ (⟨k, v⟩ : S40) ∈ l := by
  rw [right_iff] at h
  unfold findO
  constructor
  · intro hf
    rw [Option.map_eq_some_iff] at hf
    obtain ⟨c, hc, rfl⟩ := hf
    have h1 := List.mem_of_find?_eq_some hc
    have h2 := key_iff.1 (List.find?_some hc)
    subst h2
    exact h1
  · intro hm
    cases hf : l.find? (isKey k) with
    | none =>
      rw [List.find?_eq_none] at hf
      exact absurd (key_iff.2 rfl) (hf _ hm)
    | some c =>
      have h1 := List.mem_of_find?_eq_some hf
      have h2 := key_iff.1 (List.find?_some hf)
      rw [one_key h.2 h1 hm h2]
      rfl
theorem findV_iff {l : List S40} (h : rightB l = true) (k v : ByteArray) : findV l k = some v ↔ (⟨k, v⟩ : S40) ∈ l := by
  unfold findV
  rw [if_pos h, findO_iff h]
theorem findV_ext {l m : List S40} (hl : rightB l = true) (hm : rightB m = true) (k : ByteArray) (h : ∀ v, (⟨k, v⟩ : S40) ∈ l ↔ (⟨k, v⟩ : S40) ∈ m) : findV l k = findV m k := by
  apply Option.ext
  intro v
  have h1 := findV_iff hl k v
  have h2 := findV_iff hm k v
  rw [h1, h2, h v]

/-- What a call makes of a map in which its key has o. -/
def opS (x : S26) (o : Option ByteArray) (l : List S40) : List S40 :=
  if hasKey x = true ∧ okCall x = false then l
  else if x.f0 = 3 then (if o.isSome then l else putS l ⟨x.f1, x.f2⟩)
  else if x.f0 = 4 then (if o.isSome then putS l ⟨x.f1, x.f2⟩ else l)
  else if x.f0 = 5 then (if o.isSome then l.filter (fun y => !isKey x.f1 y) else l)
  else l
/-- .. and what it tells. -/
def repS (x : S26) (o : Option ByteArray) : S34 :=
  if hasKey x = true ∧ okCall x = false then noReply x.f0 3
  else if x.f0 = 2 then ⟨0, x.f0, 0, 0, o.isSome, o.getD ⟨#[]⟩, []⟩
  else if x.f0 = 3 then (if o.isSome then noReply x.f0 8 else noReply x.f0 0)
  else if x.f0 = 4 then (if o.isSome then noReply x.f0 0 else noReply x.f0 7)
  else if x.f0 = 5 then (if o.isSome then noReply x.f0 0 else noReply x.f0 7)
  else noReply x.f0 2
theorem do_is {l : List S40} {x : S26} (h : rightB l = true) (h6 : x.f0 ≠ 6) : doS l x = (opS x (findV l x.f1) l, repS x (findV l x.f1)) := by
  unfold doS opS repS isIn
  rw [if_neg (by rw [h]; decide), if_neg h6]
  by_cases h1 : hasKey x = true ∧ okCall x = false
  · rw [if_pos h1, if_pos h1, if_pos h1]
  rw [if_neg h1, if_neg h1, if_neg h1]
  by_cases h2 : x.f0 = 2
  · rw [if_pos h2, if_pos h2, if_neg (by omega), if_neg (by omega), if_neg (by omega)]
  rw [if_neg h2, if_neg h2]
  by_cases h3 : x.f0 = 3
  · rw [if_pos h3, if_pos h3, if_pos h3]
    split <;> rfl
  rw [if_neg h3, if_neg h3, if_neg h3]
  by_cases h4 : x.f0 = 4
  · rw [if_pos h4, if_pos h4, if_pos h4]
    split <;> rfl
  rw [if_neg h4, if_neg h4, if_neg h4]
  by_cases h5 : x.f0 = 5
  · rw [if_pos h5, if_pos h5, if_pos h5]
    split <;> rfl
  rw [if_neg h5, if_neg h5, if_neg h5]
theorem ok_fits {x : S26} (h : okCall x = true) : fitsB ⟨x.f1, x.f2⟩ = true := by
  unfold okCall at h
  unfold fitsB
  simp only [Bool.and_eq_true, decide_eq_true_eq] at h ⊢
  omega
theorem hasKey_of {x : S26} (h : 2 ≤ x.f0 ∧ x.f0 ≤ 5) : hasKey x = true := by
  unfold hasKey
  rw [Bool.and_eq_true, decide_eq_true_eq, decide_eq_true_eq]
  exact h
/-- A call keeps the map, puts its cell, or strikes its key. -/
theorem op_is (x : S26) (o : Option ByteArray) : (∀ l, opS x o l = l) ∨ (fitsB ⟨x.f1, x.f2⟩ = true ∧ ∀ l, opS x o l = putS l ⟨x.f1, x.f2⟩) ∨ (∀ l, opS x o l = l.filter (fun y => !isKey x.f1 y)) := by
  by_cases h1 : hasKey x = true ∧ okCall x = false
  · exact .inl fun l => by unfold opS; rw [if_pos h1]
  have hf : 2 ≤ x.f0 ∧ x.f0 ≤ 5 → fitsB ⟨x.f1, x.f2⟩ = true := fun h => ok_fits (by
    cases ho : okCall x with
    | true => rfl
    | false => exact absurd ⟨hasKey_of h, ho⟩ h1)
  by_cases h3 : x.f0 = 3
  · cases o with
    | none => exact .inr (.inl ⟨hf (by omega), fun l => by unfold opS; rw [if_neg h1, if_pos h3]; rfl⟩)
    | some v => exact .inl fun l => by unfold opS; rw [if_neg h1, if_pos h3]; rfl
  by_cases h4 : x.f0 = 4
  · cases o with
    | none => exact .inl fun l => by unfold opS; rw [if_neg h1, if_neg h3, if_pos h4]; rfl
    | some v => exact .inr (.inl ⟨hf (by omega), fun l => by unfold opS; rw [if_neg h1, if_neg h3, if_pos h4]; rfl⟩)
  by_cases h5 : x.f0 = 5
  · cases o with
    | none => exact .inl fun l => by unfold opS; rw [if_neg h1, if_neg h3, if_neg h4, if_pos h5]; rfl
    | some v => exact .inr (.inr fun l => by unfold opS; rw [if_neg h1, if_neg h3, if_neg h4, if_pos h5]; rfl)
  exact .inl fun l => by unfold opS; rw [if_neg h1, if_neg h3, if_neg h4, if_neg h5]
theorem op_right {l : List S40} (x : S26) (o : Option ByteArray) (h : rightB l = true) : rightB (opS x o l) = true := by
  rcases op_is x o with e | ⟨hf, e⟩ | e
  · rw [e]; exact h
  · rw [e]; exact put_right h hf
  · rw [e]; exact filter_right h
theorem op_other {l : List S40} {x : S26} {o : Option ByteArray} {k v : ByteArray} (hk : k ≠ x.f1) : (⟨k, v⟩ : S40) ∈ opS x o l ↔ (⟨k, v⟩ : S40) ∈ l := by
  rcases op_is x o with e | ⟨_, e⟩ | e
  · rw [e]
  · rw [e, mem_put]
    constructor
    · rintro (h | h)
      · injection h with h1; exact absurd h1 hk
      · exact h.1
    · exact fun h => .inr ⟨h, hk⟩
  · rw [e, mem_del]
    exact ⟨fun h => h.1, fun h => ⟨h, hk⟩⟩
theorem op_find {l : List S40} {x : S26} {o : Option ByteArray} {k : ByteArray} (h : rightB l = true) (hk : k ≠ x.f1) : findV (opS x o l) k = findV l k :=
  findV_ext (op_right x o h) h k fun _ => op_other hk
theorem op_comm {l : List S40} {x y : S26} (o p : Option ByteArray) (h : rightB l = true) (hk : x.f1 ≠ y.f1) : opS y p (opS x o l) = opS x o (opS y p l) := by
  have a1 := ((right_iff _).1 (op_right y p (op_right x o h))).2
  have a2 := ((right_iff _).1 (op_right x o (op_right y p h))).2
  refine sorted_ext a1 a2 fun z => ?_
  clear a1 a2
  have hk' : y.f1 ≠ x.f1 := fun e => hk e.symm
  rcases op_is x o with e1 | ⟨_, e1⟩ | e1 <;> rcases op_is y p with e2 | ⟨_, e2⟩ | e2
  all_goals simp only [e1, e2, mem_put, mem_del]
  · constructor
    · rintro (rfl | ⟨rfl | h1, h2⟩)
      · exact .inr ⟨.inl rfl, hk'⟩
      · exact .inl rfl
      · exact .inr ⟨.inr ⟨h1.1, h2⟩, h1.2⟩
    · rintro (rfl | ⟨rfl | h1, h2⟩)
      · exact .inr ⟨.inl rfl, hk⟩
      · exact .inl rfl
      · exact .inr ⟨.inr ⟨h1.1, h2⟩, h1.2⟩
  · constructor
    · rintro ⟨rfl | h1, h2⟩
      · exact .inl rfl
      · exact .inr ⟨⟨h1.1, h2⟩, h1.2⟩
    · rintro (rfl | ⟨h1, h2⟩)
      · exact ⟨.inl rfl, hk⟩
      · exact ⟨.inr ⟨h1.1, h2⟩, h1.2⟩
  · constructor
    · rintro (rfl | ⟨h1, h2⟩)
      · exact ⟨.inl rfl, hk'⟩
      · exact ⟨.inr ⟨h1.1, h2⟩, h1.2⟩
    · rintro ⟨rfl | h1, h2⟩
      · exact .inl rfl
      · exact .inr ⟨⟨h1.1, h2⟩, h1.2⟩
  · constructor
    · rintro ⟨⟨h1, h2⟩, h3⟩
      exact ⟨⟨h1, h3⟩, h2⟩
    · rintro ⟨⟨h1, h2⟩, h3⟩
      exact ⟨⟨h1, h3⟩, h2⟩
theorem do_right {l : List S40} (x : S26) (h : rightB l = true) : rightB (doS l x).1 = true := by
  by_cases h6 : x.f0 = 6
  · have : (doS l x).1 = l := by
      unfold doS
      rw [if_neg (by rw [h]; decide), if_neg (by unfold hasKey; simp; omega), if_neg (by omega), if_neg (by omega), if_neg (by omega), if_neg (by omega), if_pos h6]
      split <;> rfl
    rw [this]; exact h
  · rw [do_is h h6]; exact op_right x _ h
/-- Two calls on other keys, in either order. -/
theorem apart_law {l : List S40} {x y : S26} (h : rightB l = true) (hx : x.f0 ≠ 6) (hy : y.f0 ≠ 6) (hk : x.f1 ≠ y.f1) :
    (doS (doS l x).1 y).1 = (doS (doS l y).1 x).1 ∧ (doS (doS l y).1 x).2 = (doS l x).2 ∧ (doS (doS l x).1 y).2 = (doS l y).2 := by
  have hk' : y.f1 ≠ x.f1 := fun e => hk e.symm
  have e1 := do_is (x := x) h hx
  have e2 := do_is (x := y) h hy
  have e3 := do_is (l := (doS l x).1) (x := y) (do_right x h) hy
  have e4 := do_is (l := (doS l y).1) (x := x) (do_right y h) hx
  rw [e3, e4, e1, e2]
  simp only
  rw [op_find h hk, op_find h hk']
  exact ⟨op_comm _ _ h hk, rfl, rfl⟩
theorem get_same {l : List S40} {x : S26} (h : rightB l = true) (hx : x.f0 = 2) : (doS l x).1 = l := by
  rw [do_is h (by omega)]
  unfold opS
  split
  · rfl
  · rw [if_neg (by omega), if_neg (by omega), if_neg (by omega)]
theorem scan_same {l : List S40} {x : S26} (h : rightB l = true) (h6 : x.f0 = 6) : (doS l x).1 = l := by
  unfold doS
  rw [if_neg (by rw [h]; decide), if_neg (by unfold hasKey; simp; omega), if_neg (by omega), if_neg (by omega), if_neg (by omega), if_neg (by omega), if_pos h6]
  split <;> rfl
theorem diff_same (l : List S40) : diffS l l = [] := by
  unfold diffS
  split
  · have : diffK l l = [] := by
      unfold diffK
      rw [List.map_eq_nil_iff, List.filter_eq_nil_iff]
      intro a _
      unfold unlike
      simp
    rw [this]
    simp [sorted, Lib.compact]
    decide
  · rfl
theorem op_len {l : List S40} (x : S26) (o : Option ByteArray) : (opS x o l).length ≤ l.length + 1 := by
  rcases op_is x o with e | ⟨_, e⟩ | e
  · rw [e]; omega
  · rw [e]
    unfold putS
    have h1 : ∀ (l : List S40) (c : S40), (l.filter (fun x => lessC x c)).length + (l.filter (fun x => lessC c x)).length ≤ l.length := by
      intro l c
      induction l with
      | nil => simp
      | cons a l ih =>
        rw [List.filter_cons, List.filter_cons]
        cases h1 : lessC a c with
        | true =>
          have h2 : lessC c a = false := bl_asymm h1
          rw [h2]
          simp only [if_true, Bool.false_eq_true, if_false, List.length_cons]
          omega
        | false =>
          simp only [Bool.false_eq_true, if_false]
          split <;> simp only [List.length_cons] <;> omega
    have := h1 l ⟨x.f1, x.f2⟩
    simp only [List.length_append, List.length_singleton]
    omega
  · rw [e]
    have := List.length_filter_le (fun y => !isKey x.f1 y) l
    omega
theorem do_len {l : List S40} (x : S26) : (doS l x).1.length ≤ l.length + 1 := by
  cases h : rightB l with
  | false => unfold doS; rw [if_pos h]; simp
  | true =>
    by_cases h6 : x.f0 = 6
    · rw [scan_same h h6]; omega
    · rw [do_is h h6]; exact op_len x _
end Go.Proofs.Ytcnmefocbjilbaa.G
namespace Go.Proofs.Ytcnmefocbjilbaa.G
open Go.ChangeShapes Go.WideShapes Go.ChangeAt Go.RowKit Go.Proofs.YtcnmefocbjilbaaW.PrintWords

set_option maxRecDepth 20000
/-! ### how an argument reads, kind by kind -/
/-- What reads as a value of type t holds cells of kind d. -/
def Opens (t : TypeId) {α : Type} (d : Kd α) : Prop := ∀ {H : Type} {enc : TypeId × Value → H} {W : World} {spare : Nat → Bool} {held : Bool} {fuel : Nat} {cs : List Value} {x : DataW H × List MemPlace}, DataW.trod enc Try.prog W 0 spare held fuel t cs = some x → ∃ a, d.K W a cs
theorem opens_string {t : TypeId} (h : Try.prog.underlying t = some .string) : Opens t Kd.string := fun hf => by
  obtain ⟨s, e, _⟩ := DataW.trod_string h hf
  exact ⟨s, e⟩
theorem opens_int {t : TypeId} {k : IntKind} (h : Try.prog.underlying t = some (.int k)) : Opens t (Kd.int k) := fun hf => by
  obtain ⟨s, e, _⟩ := DataW.trod_int h hf
  exact ⟨s, e⟩
theorem opens_bool {t : TypeId} (h : Try.prog.underlying t = some .bool) : Opens t Kd.bool := fun hf => by
  obtain ⟨s, e, _⟩ := DataW.trod_bool h hf
  exact ⟨s, e⟩
theorem cells_at {w : World} {base : Nat} {a : Addr} {n : Nat} {cs : List Value} (h : w.cells? base a n = some cs) (i : Nat) (u : Value) (hu : cs[i]? = some u) : w.cell? (a.add i) = some u := by
  obtain ⟨_, hl, hc⟩ := World.cells?_some h
  have := hc i (by rw [← hl]; exact (List.getElem?_eq_some_iff.1 hu).1)
  rw [this, hu]
/-- A row of elements. -/
theorem opens_row {t e : TypeId} {α : Type} {d : Kd α} [Inhabited α] (ht : Try.prog.underlying t = some (.slice e)) (hs : Try.prog.cellsOf e = d.sz) (hd : Opens e d) {H : Type} {enc : TypeId × Value → H} {W : World} {spare : Nat → Bool} {held : Bool} {fuel : Nat} {A : Option Addr} {n c : Nat} {x : DataW H × List MemPlace}
    (hf : DataW.trod enc Try.prog W 0 spare held fuel t [.slice A n c] = some x) : ∃ l : List α, n = l.length ∧ l.length ≤ c ∧ d.C W A l.length l := by
  rcases Go.Deep.open_slice ht hf with ⟨hcs, _⟩ | ⟨a, len, cap, m, k, D, Pl, hcs, _, hlc, hcm, hm, _, hx⟩
  · injection hcs with hcs _
    injection hcs with h1 h2 h3
    subst h1 h2 h3
    exact ⟨[], rfl, Nat.le_refl _, Kd.C_nil d W⟩
  · injection hcs with hcs _
    injection hcs with h1 h2 h3
    subst h1 h2 h3
    have hnm : n ≤ m := by rw [hm]; split <;> omega
    have hs2 : ∀ i, i < n → ∃ q : α, ∃ cs', W.cells? 0 (a.add (i * Try.prog.cellsOf e)) (Try.prog.cellsOf e) = some cs' ∧ d.K W q cs' := by
      intro i hi
      obtain ⟨cs', h1, h2⟩ := hx i (by omega)
      obtain ⟨q, hq⟩ := hd h2
      exact ⟨q, cs', h1, hq⟩
    obtain ⟨q, hq⟩ := Go.Deep.choose_lt hs2
    refine ⟨(List.range n).map q, by simp, by simpa using hlc, by simp, by simp only [List.length_map, List.length_range]; simp only [maxLen] at hcm; omega, fun _ => ⟨a, rfl, fun j y hj => ?_⟩⟩
    have hjn : j < n := by
      have := (List.getElem?_eq_some_iff.1 hj).1
      simpa using this
    have hx' : y = q j := by
      have : ((List.range n).map q)[j]? = some (q j) := by simp [hjn]
      rw [this] at hj
      exact (Option.some.inj hj).symm
    subst hx'
    obtain ⟨cs', h1, h2⟩ := hq j hjn
    refine ⟨cs', d.K_len h2, h2, fun i u hu => ?_⟩
    have := cells_at h1 i u hu
    rw [Go.Deep.add_add, hs] at this
    exact this
theorem opens_slice {t e : TypeId} {α : Type} {d : Kd α} [Inhabited α] (ht : Try.prog.underlying t = some (.slice e)) (hs : Try.prog.cellsOf e = d.sz) (hd : Opens e d) : Opens t (Kd.slice e d) := fun {H enc W spare held fuel cs x} hf => by
  have hsh : ∃ A n c, cs = [.slice A n c] := by
    rcases Go.Deep.open_slice ht hf with ⟨hcs, _⟩ | ⟨a, len, cap, _, _, _, _, hcs, _⟩
    · exact ⟨none, 0, 0, hcs⟩
    · exact ⟨some a, len, cap, hcs⟩
  obtain ⟨A, n, c, rfl⟩ := hsh
  obtain ⟨l, rfl, hc, hC⟩ := opens_row ht hs hd hf
  exact ⟨l, A, c, rfl, hc, hC⟩
instance : Inhabited S40 := ⟨z40⟩
instance : Inhabited S24 := ⟨z24⟩
instance : Inhabited S26 := ⟨z26⟩
instance : Inhabited S34 := ⟨z34⟩
instance : Inhabited S50 := ⟨z50⟩
theorem opens40 : Opens 40 k40 := fun {H enc W spare held fuel cs x} hf => by
  obtain ⟨xs, n, rfl, _, hl, hxl, hg⟩ := DataW.trod_struct Try.underlying40 hf
  have hl' : cs.length = 2 := hl.trans (by kernel_rfl)
  match xs, hxl with
  | [y0, y1], _ =>
    have g0 : DataW.trod enc Try.prog W 0 spare held n 9 ((cs.drop 0).take (Try.prog.cellsOf 9)) = some y0 := hg 0 _ rfl
    have g1 : DataW.trod enc Try.prog W 0 spare held n 9 ((cs.drop 1).take (Try.prog.cellsOf 9)) = some y1 := hg 1 _ rfl
    rw [show Try.prog.cellsOf 9 = 1 by kernel_rfl] at g0 g1
    obtain ⟨a0, e0⟩ := opens_string (show Try.prog.underlying 9 = some .string by kernel_rfl) g0
    obtain ⟨a1, e1⟩ := opens_string (show Try.prog.underlying 9 = some .string by kernel_rfl) g1
    refine ⟨⟨a0, a1⟩, (cs.drop 0).take 1, (cs.drop 1).take 1, ?_, e0, e1⟩
    match cs, hl' with
    | [u0, u1], _ => rfl
theorem opens24 : Opens 24 k24 := fun {H enc W spare held fuel cs x} hf => by
  obtain ⟨xs, n, rfl, _, hl, hxl, hg⟩ := DataW.trod_struct Try.underlying24 hf
  have hl' : cs.length = 3 := hl.trans (by kernel_rfl)
  match xs, hxl with
  | [y0, y1, y2], _ =>
    have g0 : DataW.trod enc Try.prog W 0 spare held n 9 ((cs.drop 0).take (Try.prog.cellsOf 9)) = some y0 := hg 0 _ rfl
    have g1 : DataW.trod enc Try.prog W 0 spare held n 9 ((cs.drop 1).take (Try.prog.cellsOf 9)) = some y1 := hg 1 _ rfl
    have g2 : DataW.trod enc Try.prog W 0 spare held n 4 ((cs.drop 2).take (Try.prog.cellsOf 4)) = some y2 := hg 2 _ rfl
    rw [show Try.prog.cellsOf 9 = 1 by kernel_rfl] at g0 g1
    rw [show Try.prog.cellsOf 4 = 1 by kernel_rfl] at g2
    obtain ⟨a0, e0⟩ := opens_string (show Try.prog.underlying 9 = some .string by kernel_rfl) g0
    obtain ⟨a1, e1⟩ := opens_string (show Try.prog.underlying 9 = some .string by kernel_rfl) g1
    obtain ⟨a2, e2⟩ := opens_bool (show Try.prog.underlying 4 = some .bool by kernel_rfl) g2
    refine ⟨⟨a0, a1, a2⟩, (cs.drop 0).take 1, (cs.drop 1).take 1 ++ (cs.drop 2).take 1, ?_, e0, (cs.drop 1).take 1, (cs.drop 2).take 1, rfl, e1, e2⟩
    match cs, hl' with
    | [u0, u1, u2], _ => rfl
theorem opens26 : Opens 26 k26 := fun {H enc W spare held fuel cs x} hf => by
  obtain ⟨xs, n, rfl, _, hl, hxl, hg⟩ := DataW.trod_struct Try.underlying26 hf
  have hl' : cs.length = 7 := hl.trans (by kernel_rfl)
  match xs, hxl with
  | [y0, y1, y2, y3, y4], _ =>
    have g0 : DataW.trod enc Try.prog W 0 spare held n 5 ((cs.drop 0).take (Try.prog.cellsOf 5)) = some y0 := hg 0 _ rfl
    have g1 : DataW.trod enc Try.prog W 0 spare held n 9 ((cs.drop 1).take (Try.prog.cellsOf 9)) = some y1 := hg 1 _ rfl
    have g2 : DataW.trod enc Try.prog W 0 spare held n 9 ((cs.drop 2).take (Try.prog.cellsOf 9)) = some y2 := hg 2 _ rfl
    have g3 : DataW.trod enc Try.prog W 0 spare held n 24 ((cs.drop 3).take (Try.prog.cellsOf 24)) = some y3 := hg 3 _ rfl
    have g4 : DataW.trod enc Try.prog W 0 spare held n 3 ((cs.drop 6).take (Try.prog.cellsOf 3)) = some y4 := hg 4 _ rfl
    rw [show Try.prog.cellsOf 5 = 1 by kernel_rfl] at g0
    rw [show Try.prog.cellsOf 9 = 1 by kernel_rfl] at g1 g2
    rw [show Try.prog.cellsOf 24 = 3 by kernel_rfl] at g3
    rw [show Try.prog.cellsOf 3 = 1 by kernel_rfl] at g4
    obtain ⟨a0, e0⟩ := opens_int (k := .u8) (show Try.prog.underlying 5 = some (.int .u8) by kernel_rfl) g0
    obtain ⟨a1, e1⟩ := opens_string (show Try.prog.underlying 9 = some .string by kernel_rfl) g1
    obtain ⟨a2, e2⟩ := opens_string (show Try.prog.underlying 9 = some .string by kernel_rfl) g2
    obtain ⟨a3, e3⟩ := opens24 g3
    obtain ⟨a4, e4⟩ := opens_int (k := .i64) (show Try.prog.underlying 3 = some (.int .i64) by kernel_rfl) g4
    refine ⟨⟨a0, a1, a2, a3, a4⟩, _, _, ?_, e0, _, _, rfl, e1, _, _, rfl, e2, _, _, rfl, e3, e4⟩
    match cs, hl' with
    | [u0, u1, u2, u3, u4, u5, u6], _ => rfl
theorem opens34 : Opens 34 k34 := fun {H enc W spare held fuel cs x} hf => by
  obtain ⟨xs, n, rfl, _, hl, hxl, hg⟩ := DataW.trod_struct Try.underlying34 hf
  have hl' : cs.length = 7 := hl.trans (by kernel_rfl)
  match xs, hxl with
  | [y0, y1, y2, y3, y4, y5, y6], _ =>
    have g0 : DataW.trod enc Try.prog W 0 spare held n 3 ((cs.drop 0).take (Try.prog.cellsOf 3)) = some y0 := hg 0 _ rfl
    have g1 : DataW.trod enc Try.prog W 0 spare held n 5 ((cs.drop 1).take (Try.prog.cellsOf 5)) = some y1 := hg 1 _ rfl
    have g2 : DataW.trod enc Try.prog W 0 spare held n 31 ((cs.drop 2).take (Try.prog.cellsOf 31)) = some y2 := hg 2 _ rfl
    have g3 : DataW.trod enc Try.prog W 0 spare held n 32 ((cs.drop 3).take (Try.prog.cellsOf 32)) = some y3 := hg 3 _ rfl
    have g4 : DataW.trod enc Try.prog W 0 spare held n 4 ((cs.drop 4).take (Try.prog.cellsOf 4)) = some y4 := hg 4 _ rfl
    have g5 : DataW.trod enc Try.prog W 0 spare held n 9 ((cs.drop 5).take (Try.prog.cellsOf 9)) = some y5 := hg 5 _ rfl
    have g6 : DataW.trod enc Try.prog W 0 spare held n 22 ((cs.drop 6).take (Try.prog.cellsOf 22)) = some y6 := hg 6 _ rfl
    rw [show Try.prog.cellsOf 3 = 1 by kernel_rfl] at g0
    rw [show Try.prog.cellsOf 5 = 1 by kernel_rfl] at g1
    rw [show Try.prog.cellsOf 31 = 1 by kernel_rfl] at g2
    rw [show Try.prog.cellsOf 32 = 1 by kernel_rfl] at g3
    rw [show Try.prog.cellsOf 4 = 1 by kernel_rfl] at g4
    rw [show Try.prog.cellsOf 9 = 1 by kernel_rfl] at g5
    rw [show Try.prog.cellsOf 22 = 1 by kernel_rfl] at g6
    obtain ⟨a0, e0⟩ := opens_int (k := .i64) (show Try.prog.underlying 3 = some (.int .i64) by kernel_rfl) g0
    obtain ⟨a1, e1⟩ := opens_int (k := .u8) (show Try.prog.underlying 5 = some (.int .u8) by kernel_rfl) g1
    obtain ⟨a2, e2⟩ := opens_int (k := .i64) (show Try.prog.underlying 31 = some (.int .i64) by kernel_rfl) g2
    obtain ⟨a3, e3⟩ := opens_int (k := .u64) (show Try.prog.underlying 32 = some (.int .u64) by kernel_rfl) g3
    obtain ⟨a4, e4⟩ := opens_bool (show Try.prog.underlying 4 = some .bool by kernel_rfl) g4
    obtain ⟨a5, e5⟩ := opens_string (show Try.prog.underlying 9 = some .string by kernel_rfl) g5
    obtain ⟨a6, e6⟩ := opens_slice Try.underlying22 (by kernel_rfl) opens40 g6
    refine ⟨⟨a0, a1, a2, a3, a4, a5, a6⟩, _, _, ?_, e0, _, _, rfl, e1, _, _, rfl, e2, _, _, rfl, e3, _, _, rfl, e4, _, _, rfl, e5, e6⟩
    match cs, hl' with
    | [u0, u1, u2, u3, u4, u5, u6], _ => rfl
theorem opens50 : Opens 50 k50 := fun {H enc W spare held fuel cs x} hf => by
  obtain ⟨xs, n, rfl, _, hl, hxl, hg⟩ := DataW.trod_struct Try.underlying50 hf
  have hl' : cs.length = 3 := hl.trans (by kernel_rfl)
  match xs, hxl with
  | [y0, y1, y2], _ =>
    have g0 : DataW.trod enc Try.prog W 0 spare held n 32 ((cs.drop 0).take (Try.prog.cellsOf 32)) = some y0 := hg 0 _ rfl
    have g1 : DataW.trod enc Try.prog W 0 spare held n 47 ((cs.drop 1).take (Try.prog.cellsOf 47)) = some y1 := hg 1 _ rfl
    have g2 : DataW.trod enc Try.prog W 0 spare held n 48 ((cs.drop 2).take (Try.prog.cellsOf 48)) = some y2 := hg 2 _ rfl
    rw [show Try.prog.cellsOf 32 = 1 by kernel_rfl] at g0
    rw [show Try.prog.cellsOf 47 = 1 by kernel_rfl] at g1
    rw [show Try.prog.cellsOf 48 = 1 by kernel_rfl] at g2
    obtain ⟨a0, e0⟩ := opens_int (k := .u64) (show Try.prog.underlying 32 = some (.int .u64) by kernel_rfl) g0
    obtain ⟨a1, e1⟩ := opens_slice Try.underlying47 (by kernel_rfl) opens26 g1
    obtain ⟨a2, e2⟩ := opens_slice Try.underlying48 (by kernel_rfl) opens34 g2
    refine ⟨⟨a0, a1, a2⟩, _, _, ?_, e0, _, _, rfl, e1, e2⟩
    match cs, hl' with
    | [u0, u1, u2], _ => rfl
theorem open_deeds {H : Type} {enc : TypeId × Value → H} {W : World} {spare : Nat → Bool} {held : Bool} {A : Option Addr} {n c : Nat} {d : DataW H} {p : List MemPlace} (h : DataW.Trod enc Try.prog W 0 spare held 45 (.slice A n c) d p) :
    ∃ l : List S50, n = l.length ∧ l.length ≤ c ∧ Kd.C k50 W A l.length l := by
  obtain ⟨fuel, hf⟩ := h
  exact opens_row Try.underlying45 (by kernel_rfl) opens50 (by simpa [Value.cells] using hf)
end Go.Proofs.Ytcnmefocbjilbaa.G
namespace Go.Proofs.Ytcnmefocbjilbaa.G
open Go.RowKit Go.Proofs.YtcnmefocbjilbaaW.PrintWords Go.Proofs.YtcnmefocbjilbaaW.PrintLast Go.Proofs.YtcnmefocbjilbaaW.PrintMore
open Go.Proofs.YtcnmefocbjilbaaFlat
set_option maxHeartbeats 2000000
set_option maxRecDepth 20000

/-! ### replies whose cells' capacity may be cut -/
def sliceC {α : Type} (e : Nat) (d : Kd α) : Kd (List α) where
  sz := 1
  E := e :: d.E
  K := (Kd.slice e d).K
  M := fun w base ok xs cs => ∃ A n cap, cs = [.slice A xs.length n] ∧ xs.length ≤ n ∧ d.R e w base ok (.slice A xs.length cap) xs
  K_len := (Kd.slice e d).K_len
  K_one := (Kd.slice e d).K_one
  K_below := (Kd.slice e d).K_below
  K_of_M := by
    rintro w base ok x cs ⟨A, n, cap, rfl, hn, h⟩
    exact ⟨A, n, rfl, hn, (Kd.R_reads' h).2.2⟩
  M_mono := by
    rintro w base ok ok' x cs hok ⟨A, n, cap, rfl, hn, h⟩
    exact ⟨A, n, cap, rfl, hn, Kd.R_mono h hok⟩
  M_bound := by
    rintro w base ok x cs ⟨A, n, cap, rfl, hn, h⟩
    exact ⟨A, n, cap, rfl, hn, Kd.R_bound h⟩
  M_move := by
    rintro w w1 base ok x cs hm ⟨A, n, cap, rfl, hn, h⟩
    exact ⟨A, n, cap, rfl, hn, Kd.R_move h hm⟩
  M_lower := by
    rintro w base base' ok x cs hb ⟨A, n, cap, rfl, hn, h⟩
    exact ⟨A, n, cap, rfl, hn, Kd.R_lower h hb⟩
def k34c : Kd S34 := Kd.iso (Kd.pair (Kd.int .i64) (Kd.pair (Kd.int .u8) (Kd.pair (Kd.int .i64) (Kd.pair (Kd.int .u64) (Kd.pair Kd.bool (Kd.pair Kd.string (sliceC 40 k40))))))) (fun x : S34 => (x.f0, x.f1, x.f2, x.f3, x.f4, x.f5, x.f6))
theorem k34c_C {w : World} {A : Option Addr} {n : Nat} {xs : List S34} (h : Kd.C k34c w A n xs) : Kd.C k34 w A n xs := h
theorem k34c_mkM (w : World) (base : Nat) (ok : Nat → Prop) (x : S34) {A : Option Addr} {n cap : Nat} (hn : x.f6.length ≤ n) (h : Kd.R k40 40 w base ok (.slice A x.f6.length cap) x.f6) :
    k34c.M w base ok x [.int .i64 x.f0, .int .u8 x.f1, .int .i64 x.f2, .int .u64 x.f3, .bool x.f4, .string x.f5, .slice A x.f6.length n] :=
  ⟨[.int .i64 x.f0], _, rfl, rfl, [.int .u8 x.f1], _, rfl, rfl, [.int .i64 x.f2], _, rfl, rfl, [.int .u64 x.f3], _, rfl, rfl, [.bool x.f4], _, rfl, rfl, [.string x.f5], _, rfl, rfl, A, n, cap, rfl, hn, h⟩
/-- A row of cells and a row of replies are two rows. -/
theorem cells_apart {α : Type} {d : Kd α} {w : World} {base base' : Nat} {ok ok' : Nat → Prop} {v u : Value} {xs : List S40} {ys : List α} (h : Kd.R k40 40 w base ok v xs) (g : Kd.R d 34 w base' ok' u ys) : Kd.R k40 40 w base (fun k => ok k ∧ some k ≠ u.ownBlock) v xs :=
  Kd.R_mono (Kd.R_bound h) fun k hk => ⟨hk.1, fun e => by
    obtain ⟨inner, ho⟩ := Kd.R_own g
    obtain ⟨cells, hc⟩ := own_typed ho k e.symm
    obtain ⟨_, _, _, q, hq, cells', hc'⟩ := hk
    rw [hc] at hc'
    injection hc' with h1
    injection h1 with _ h2
    subst h2
    simp [k40, Kd.iso, Kd.pair, Kd.string, Kd.scalar] at hq⟩

/-! ### what Run tells -/
def stepR (s : List S40 × List S34) (x : S26) : List S40 × List S34 := ((doS s.1 x).1, s.2 ++ [(doS s.1 x).2])
def runR (l : List S40) (xs : List S26) : List S40 × List S34 := xs.foldl stepR (l, [])
def runS (l : List S40) (xs : List S26) : List S40 × List S34 := if rightB l = true then runR l xs else ([], xs.map (fun x => noReply x.f0 100))
theorem take_snoc26 (l : List S26) (k : Nat) (h : k < l.length) : l.take (k + 1) = l.take k ++ [rd_T26 l k] := by
  have e : rd_T26 l k = l[k] := by simp [rd_T26, h]
  rw [e, List.take_succ_eq_append_getElem h]
theorem runR_snoc (l : List S40) (xs : List S26) (x : S26) : runR l (xs ++ [x]) = stepR (runR l xs) x := by
  unfold runR
  rw [List.foldl_append]
  rfl
theorem fold_len (xs : List S26) : ∀ s : List S40 × List S34, (xs.foldl stepR s).1.length ≤ s.1.length + xs.length ∧ (xs.foldl stepR s).2.length = s.2.length + xs.length := by
  induction xs with
  | nil => intro s; simp
  | cons x xs ih =>
    intro s
    have h := ih (stepR s x)
    have h1 : (stepR s x).1.length ≤ s.1.length + 1 := do_len x
    have h2 : (stepR s x).2.length = s.2.length + 1 := by simp [stepR]
    rw [List.foldl_cons, List.length_cons]
    omega
theorem runR_len (l : List S40) (xs : List S26) : (runR l xs).1.length ≤ l.length + xs.length ∧ (runR l xs).2.length = xs.length := by
  have h := fold_len xs (l, [])
  simpa [runR] using h
theorem fold_right (xs : List S26) : ∀ s : List S40 × List S34, rightB s.1 = true → rightB (xs.foldl stepR s).1 = true := by
  induction xs with
  | nil => intro s h; exact h
  | cons x xs ih =>
    intro s h
    rw [List.foldl_cons]
    exact ih _ (do_right x h)
theorem runR_right (l : List S40) (xs : List S26) (h : rightB l = true) : rightB (runR l xs).1 = true := fold_right xs (l, []) h
def RunPost (P : List S40 × List S34) (w : World) (e : Ending) (w' : World) : Prop :=
  ∃ va vt, e = .returned (.tuple #[va, vt]) ∧ Own w' w.heap.size va P.1 ∧ Kd.R k34c 34 w' w.heap.size (fun _ => True) vt P.2 ∧ Below w.heap.size w w'
section
variable {ops : Array Oper} {o : Oper} {a : Act} {rest : List Oper} {Q : Exit → Act → World → Prop}
/-- append(told, reply). -/
theorem app1R {w0 W : World} (base : Nat) (hgd : o.guard = none) (s x : Operand) (ho : o.op = .call { callee := .builtin .append, args := #[s, x], argTypes := #[48, 48] })
    (v : Value) (xs : List S34) (p : S34) (A : Option Addr) (n cap : Nat) (hs : a.eval s = v) (hx : a.eval x = .slice (some ⟨W.heap.size, 0, none⟩) 1 1) (HO : Kd.R k34c 34 W base (fun _ => True) v xs) (hn : p.f6.length ≤ n) (HP : Kd.R k40 40 W base (fun _ => True) (.slice A p.f6.length cap) p.f6) (HB : Below base w0 W) (hbase : base ≤ W.heap.size) (hl : xs.length < 1099511627775)
    (h : ∀ v1 w1, Kd.R k34c 34 w1 base (fun _ => True) v1 (xs ++ [p]) → Below base w0 w1 → base ≤ w1.heap.size → W.grownBy w1 v.ownBlock → wpList Try.prog ops Q rest (a.put o.dst v1) w1) :
    wpList Try.prog ops Q (o :: rest) a (W.alloc (.cells #[.int .i64 p.f0, .int .u8 p.f1, .int .i64 p.f2, .int .u64 p.f3, .bool p.f4, .string p.f5, .slice A p.f6.length n] 34 (0, 0))) := by
  refine Kd.R_append k34c (w0 := w0) base hgd s x 48 34 (.agg #[(.int .i64 0), (.int .u8 0), (.int .i64 0), (.int .u64 0), (.bool false), (.string ⟨#[]⟩), (.slice none 0 0)]) 80 ho Try.underlying48 info34 rfl (by decide) (by omega) v xs p [.int .i64 p.f0, .int .u8 p.f1, .int .i64 p.f2, .int .u64 p.f3, .bool p.f4, .string p.f5, .slice A p.f6.length n] (fun _ => True) (fun k => True ∧ some k ≠ v.ownBlock) hs hx (k34c_mkM W base _ p hn (cells_apart HP HO)) (fun _ hk => hk) (fun _ _ => trivial) HO HB hbase (by omega) ?_
  intro v1 w1 h1 h2 h3 h4
  exact h v1 w1 h1 h2 (Nat.le_trans hbase h3.size) h3
end
end Go.Proofs.Ytcnmefocbjilbaa.G
namespace Go.Proofs.Ytcnmefocbjilbaa.G
open Go.RowKit Go.Proofs.YtcnmefocbjilbaaW.PrintWords Go.Proofs.YtcnmefocbjilbaaW.PrintLast Go.Proofs.YtcnmefocbjilbaaW.PrintMore
open Go.Proofs.YtcnmefocbjilbaaFlat
set_option maxHeartbeats 2000000
set_option maxRecDepth 20000

theorem do_fixed (l : List S40) (x : S26) : (⟨0, x.f0, (doS l x).2.f2, 0, (doS l x).2.f4, (doS l x).2.f5, (doS l x).2.f6⟩ : S34) = (doS l x).2 := by
  have h : (doS l x).2.f0 = 0 ∧ (doS l x).2.f1 = x.f0 ∧ (doS l x).2.f3 = 0 := by
    unfold doS
    repeat (first | exact ⟨rfl, rfl, rfl⟩ | split)
  obtain ⟨h0, h1, h3⟩ := h
  generalize (doS l x).2 = r at *
  cases r
  simp only at h0 h1 h3
  subst h0 h1 h3
  rfl
theorem row_only {α : Type} {d : Kd α} {e base b : Nat} {w W W' : World} {v : Value} {xs : List α} {cs : Array Value} {t : TypeId} (h : d.R e w base (fun _ => True) v xs) (hb : Below w.heap.size w W) (ho : Only W W' b cs t) (hbk : w.heap.size ≤ b) : d.R e W' base (fun _ => True) v xs :=
  Kd.R_step h (fun k _ hk => (ho.other k (by omega)).trans (hb.block k hk))
theorem cells_grown {α : Type} {d : Kd α} {w w1 : World} {base base' : Nat} {ok' : Nat → Prop} {v u : Value} {xs : List S40} {ys : List α} (h : Own w base v xs) (g : Kd.R d 34 w base' ok' u ys) (hg : w.grownBy w1 u.ownBlock) : Own w1 base v xs :=
  Kd.R_mono (Kd.R_grown (cells_apart h g) hg (fun _ hk => hk.2)) (fun _ _ => trivial)

theorem Run_right (A B : Option Addr) (c d : Nat) (l : List S40) (xs : List S26) (w : World) (HR : Kd.C k40 w A l.length l) (HX : Kd.C k26 w B xs.length xs) (hc : l.length ≤ c) (hl : l.length + xs.length < 1099511627775) (hr : rightB l = true) :
    Calls Try.prog 22 #[.slice A l.length c, .slice B xs.length d] w (RunPost (runR l xs) w) := by
  have HR0 := Aside0.mk HR
  have HX0 := Aside0.mk HX
  have HC := Aside0.mk hc
  have HK := Aside0.mk hr
  clear HR HX hc hr
  go_enter Try.func22, Try.ntmps22
  go_wp2_with fail
  refine (Clone_calls A c l _ HR0.out (by omega)).mono ?_
  rintro e w1 ⟨v1, rfl, ho, hb⟩
  have HB := Aside0.mk hb
  have HO := Aside0.mk ho
  clear hb ho
  go_wp2_with fail
  refine (cells_Right_calls A c l _ (Kd.C_below HR0.out HB.out)).mono ?_
  rintro e w2 ⟨he, hb⟩
  rw [HK.out] at he
  obtain rfl := he
  have HO := Aside0.mk (Kd.R_below HO.out hb)
  have HB := Aside0.mk (HB.out.trans (hb.mono HB.out.size))
  clear hb
  go_wp2_with fail
  go_loopw [6, 7, 18] (fun v6 v7 v18 w' => ∃ k : Nat, k ≤ xs.length ∧ v18 = .int .i64 k ∧ Aside0 (Own w' w.heap.size v7 (runR l (xs.take k)).1) ∧ Aside0 (Kd.R k34c 34 w' w.heap.size (fun _ => True) v6 (runR l (xs.take k)).2) ∧ Aside0 (Below w.heap.size w w')) (fun _ _ v18 _ => xs.length - (intOf v18).toNat)
  case atStart => exact ⟨0, by omega, rfl, HO, ⟨Kd.R_nil k34c 34 _ _ _⟩, HB⟩
  case round =>
    obtain ⟨k, hk, rfl, HO, HT, HB⟩ := hrel
    by_cases hlt : k < xs.length
    · obtain ⟨ad, rfl, x0, x1, x2, x3, x4, x5, x6⟩ := at_T26 HX0.out k (by omega) (by omega)
      simp only [Int.toNat_natCast] at x0 x1 x2 x3 x4 x5 x6
      replace x0 := pw_cell_below HB.out x0
      replace x1 := pw_cell_below HB.out x1
      replace x2 := pw_cell_below HB.out x2
      replace x3 := pw_cell_below HB.out x3
      replace x4 := pw_cell_below HB.out x4
      replace x5 := pw_cell_below HB.out x5
      replace x6 := pw_cell_below HB.out x6
      have HSN := Aside0.mk (show runR l (xs.take (k + 1)) = stepR (runR l (xs.take k)) (rd_T26 xs k) by rw [take_snoc26 xs k hlt, runR_snoc])
      have hlen := runR_len l (xs.take k)
      rw [List.length_take] at hlen
      obtain ⟨S, hS⟩ : ∃ S, runR l (xs.take k) = S := ⟨_, rfl⟩
      rw [hS] at hlen HO HT HSN
      have hl1 : S.1.length < 1099511627775 := by omega
      have hl2 : S.2.length < 1099511627775 := by omega
      clear hS hlen
      obtain ⟨V7, c7, rfl, hc7, hC7⟩ := Kd.R_reads HO.out
      have HC7 := Aside0.mk hC7
      have Hc7 := Aside0.mk hc7
      clear hC7 hc7
      go_wp2_with fail
      have BX := below_alloc (Below.refl wr.heap.size wr) (.cells #[.int .u8 (rd_T26 xs k).f0, .string (rd_T26 xs k).f1, .string (rd_T26 xs k).f2, .string (rd_T26 xs k).f3.f0, .string (rd_T26 xs k).f3.f1, .bool (rd_T26 xs k).f3.f2, .int .i64 (rd_T26 xs k).f4] 26 (0, 0))
      have HBX := Aside0.mk (heap_new wr (.cells #[.int .u8 (rd_T26 xs k).f0, .string (rd_T26 xs k).f1, .string (rd_T26 xs k).f2, .string (rd_T26 xs k).f3.f0, .string (rd_T26 xs k).f3.f1, .bool (rd_T26 xs k).f3.f2, .int .i64 (rd_T26 xs k).f4] 26 (0, 0)))
      have HB1 := Aside0.mk (HB.out.trans (BX.mono HB.out.size))
      refine (cells_Right_calls A c l _ (Kd.C_below HR0.out HB1.out)).mono ?_
      rintro e w3 ⟨he, hb⟩
      rw [HK.out] at he
      obtain rfl := he
      have BB := Aside0.mk (BX.trans (hb.mono BX.size))
      have HBX := Aside0.mk (blk_below HBX.out hb)
      have BZ := below_alloc (Below.refl w3.heap.size w3) (.cells #[.int .i64 0, .int .u8 0, .int .i64 0, .int .u64 0, .bool false, .string ⟨#[]⟩, .slice none 0 0] 34 (0, 0))
      have HBX := Aside0.mk (blk_below HBX.out BZ)
      have HBZ := Aside0.mk (heap_new w3 (.cells #[.int .i64 0, .int .u8 0, .int .i64 0, .int .u64 0, .bool false, .string ⟨#[]⟩, .slice none 0 0] 34 (0, 0)))
      have BB := Aside0.mk (BB.out.trans (BZ.mono BB.out.size))
      have HSZ : wr.heap.size ≤ w3.heap.size := by have := hb.size; simp at this; omega
      have HSZ := Aside0.mk HSZ
      clear hb BX BZ x0 x1 x2 x3 x4 x5 x6
      have x0 := (blk_cell HBX.out 0).trans rfl
      have x1 := (blk_cell HBX.out 1).trans rfl
      have x2 := (blk_cell HBX.out 2).trans rfl
      have x3 := (blk_cell HBX.out 3).trans rfl
      have x4 := (blk_cell HBX.out 4).trans rfl
      have x5 := (blk_cell HBX.out 5).trans rfl
      have x6 := (blk_cell HBX.out 6).trans rfl
      go_wp2_with fail
      refine (Do_calls V7 c7 S.1 (rd_T26 xs k) _ (Kd.C_below HC7.out BB.out) Hc7.out (by omega)).mono ?_
      rintro e w4 ⟨va, vc, rfl, hva, hvc, -, hb⟩
      obtain ⟨A4, n4, rfl, hn4, cap4, ho4⟩ := hvc
      have hfix := do_fixed S.1 (rd_T26 xs k)
      obtain ⟨P, hP⟩ : ∃ P, doS S.1 (rd_T26 xs k) = P := ⟨_, rfl⟩
      have HSN := Aside0.mk (show runR l (xs.take (k + 1)) = (P.1, S.2 ++ [P.2]) by rw [HSN.out]; unfold stepR; rw [hP])
      rw [hP] at hva hn4 ho4 hfix
      rw [hP]
      have BB := Aside0.mk (BB.out.trans (hb.mono BB.out.size))
      have HBZ := Aside0.mk (blk_below HBZ.out hb)
      have HVA := Aside0.mk hva
      have HN4 := Aside0.mk hn4
      have HO4 := Aside0.mk ho4
      have HFX := Aside0.mk hfix
      clear hb hva hn4 ho4 hfix hP HBX x0 x1 x2 x3 x4 x5 x6
      have z0 := (blk_cell HBZ.out 0).trans rfl
      have z1 := (blk_cell HBZ.out 1).trans rfl
      have z2 := (blk_cell HBZ.out 2).trans rfl
      have z3 := (blk_cell HBZ.out 3).trans rfl
      have z4 := (blk_cell HBZ.out 4).trans rfl
      have z5 := (blk_cell HBZ.out 5).trans rfl
      have z6 := (blk_cell HBZ.out 6).trans rfl
      have f0 := blk_frozen HBZ.out 0
      have f1 := blk_frozen HBZ.out 1
      have f2 := blk_frozen HBZ.out 2
      have f3 := blk_frozen HBZ.out 3
      have f4 := blk_frozen HBZ.out 4
      have f5 := blk_frozen HBZ.out 5
      have f6 := blk_frozen HBZ.out 6
      have HF := Aside0.mk (show Only w4 _ w3.heap.size #[.int .i64 0, .int .u8 (rd_T26 xs k).f0, .int .i64 P.2.f2, .int .u64 0, .bool P.2.f4, .string P.2.f5, .slice A4 P.2.f6.length n4] 34 from (((((((Only.refl HBZ.out).set 0 (.int .i64 0)).set 1 (.int .u8 (rd_T26 xs k).f0)).set 2 (.int .i64 P.2.f2)).set 3 (.int .u64 0)).set 4 (.bool P.2.f4)).set 5 (.string P.2.f5)).set 6 (.slice A4 P.2.f6.length n4))
      go_upto_region 12 with fail
      generalize (((((((w4.setCell ⟨w3.heap.size, 0, none⟩ (.int .i64 0)).setCell ⟨w3.heap.size, 1, none⟩ (.int .u8 (rd_T26 xs k).f0)).setCell ⟨w3.heap.size, 2, none⟩ (.int .i64 P.2.f2)).setCell ⟨w3.heap.size, 3, none⟩ (.int .u64 0)).setCell ⟨w3.heap.size, 4, none⟩ (.bool P.2.f4)).setCell ⟨w3.heap.size, 5, none⟩ (.string P.2.f5)).setCell ⟨w3.heap.size, 6, none⟩ (.slice A4 P.2.f6.length n4)) = W5 at HF ⊢
      clear z0 z1 z2 z3 z4 z5 z6 f0 f1 f2 f3 f4 f5 f6
      have z0 := (blk_cell HF.out.here 0).trans rfl
      have z1 := (blk_cell HF.out.here 1).trans rfl
      have z2 := (blk_cell HF.out.here 2).trans rfl
      have z3 := (blk_cell HF.out.here 3).trans rfl
      have z4 := (blk_cell HF.out.here 4).trans rfl
      have z5 := (blk_cell HF.out.here 5).trans rfl
      have z6 := (blk_cell HF.out.here 6).trans rfl
      skip
      have HVA2 := Aside0.mk (Kd.R_lower (own_only HVA.out HBZ.out HF.out (by decide)) (show w.heap.size ≤ _ from Nat.le_trans HB1.out.size (by simp only [World.size_alloc]; have := HSZ.out; omega)))
      have HO42 := Aside0.mk (Kd.R_lower (own_only HO4.out HBZ.out HF.out (by decide)) (show w.heap.size ≤ _ from Nat.le_trans HB.out.size (by simp only [World.size_alloc]; have := HSZ.out; omega)))
      have HT2 := Aside0.mk (row_only HT.out BB.out HF.out HSZ.out)
      have HB2 := Aside0.mk ((HB.out.trans (BB.out.mono HB.out.size)).trans (HF.out.below (show w.heap.size ≤ w3.heap.size from Nat.le_trans HB.out.size HSZ.out)))
      have HL2 := Aside0.mk hl2
      clear hl1 hl2
      go_wp2_with (at_builtin; go_must (refine app1R (w0 := w) w.heap.size rfl (.tmp 37) (.tmp 39) rfl u6 S.2 ⟨0, (rd_T26 xs k).f0, P.2.f2, 0, P.2.f4, P.2.f5, P.2.f6⟩ A4 n4 cap4 rfl rfl HT2.out HN4.out HO42.out HB2.out HB2.out.size HL2.out ?_); intro v1 w6 h1 h2 h3 h4)
      have g1 := cells_grown HVA2.out HT2.out h4
      rw [HFX.out] at h1
      go_roundw
      case rel => exact ⟨k + 1, by omega, by go_num, ⟨by rw [HSN.out]; exact g1⟩, ⟨by rw [HSN.out]; exact h1⟩, ⟨h2⟩⟩
      case measure => simp [intOf]; omega
    · obtain rfl : k = xs.length := by omega
      clear hlt
      go_wp2_with fail
      go_ret2
      have e1 : xs.take xs.length = xs := List.take_length
      exact ⟨_, _, rfl, e1 ▸ HO.out, e1 ▸ HT.out, HB.out⟩
end Go.Proofs.Ytcnmefocbjilbaa.G
namespace Go.Proofs.Ytcnmefocbjilbaa.G
open Go.RowKit Go.Proofs.YtcnmefocbjilbaaW.PrintWords Go.Proofs.YtcnmefocbjilbaaW.PrintLast Go.Proofs.YtcnmefocbjilbaaW.PrintMore
open Go.Proofs.YtcnmefocbjilbaaFlat
set_option maxHeartbeats 2000000
set_option maxRecDepth 20000

theorem wrong_snoc (xs : List S26) (k : Nat) (h : k < xs.length) : (xs.take (k + 1)).map (fun x => noReply x.f0 100) = (xs.take k).map (fun x => noReply x.f0 100) ++ [noReply (rd_T26 xs k).f0 100] := by
  rw [take_snoc26 xs k h, List.map_append]
  rfl
theorem wrong_len (xs : List S26) (k : Nat) : ((xs.take k).map (fun x => noReply x.f0 100)).length ≤ xs.length := by
  rw [List.length_map, List.length_take]
  omega
theorem do_wrong {l : List S40} (x : S26) (h : rightB l = false) : doS l x = ([], noReply x.f0 100) := by
  unfold doS
  rw [if_pos h]

theorem Run_wrong (A B : Option Addr) (c d : Nat) (l : List S40) (xs : List S26) (w : World) (HR : Kd.C k40 w A l.length l) (HX : Kd.C k26 w B xs.length xs) (hl : l.length + xs.length < 1099511627775) (hr : rightB l = false) :
    Calls Try.prog 22 #[.slice A l.length c, .slice B xs.length d] w (RunPost ([], xs.map (fun x => noReply x.f0 100)) w) := by
  have HR0 := Aside0.mk HR
  have HX0 := Aside0.mk HX
  have HK := Aside0.mk hr
  clear HR HX hr
  go_enter Try.func22, Try.ntmps22
  go_wp2_with fail
  refine (Clone_calls A c l _ HR0.out (by omega)).mono ?_
  rintro e w1 ⟨v1, rfl, ho, hb⟩
  have HB := Aside0.mk hb
  clear hb ho
  go_wp2_with fail
  refine (cells_Right_calls A c l _ (Kd.C_below HR0.out HB.out)).mono ?_
  rintro e w2 ⟨he, hb⟩
  rw [HK.out] at he
  obtain rfl := he
  have HB := Aside0.mk (HB.out.trans (hb.mono HB.out.size))
  clear hb
  go_wp2_with fail
  go_loopw [6, 7, 18] (fun v6 v7 v18 w' => ∃ k : Nat, k ≤ xs.length ∧ v18 = .int .i64 k ∧ v7 = .slice none 0 0 ∧ Aside0 (Kd.R k34c 34 w' w.heap.size (fun _ => True) v6 ((xs.take k).map (fun x => noReply x.f0 100))) ∧ Aside0 (Below w.heap.size w w')) (fun _ _ v18 _ => xs.length - (intOf v18).toNat)
  case atStart => exact ⟨0, by omega, rfl, rfl, ⟨Kd.R_nil k34c 34 _ _ _⟩, HB⟩
  case round =>
    obtain ⟨k, hk, rfl, rfl, HT, HB⟩ := hrel
    by_cases hlt : k < xs.length
    · obtain ⟨ad, rfl, x0, x1, x2, x3, x4, x5, x6⟩ := at_T26 HX0.out k (by omega) (by omega)
      simp only [Int.toNat_natCast] at x0 x1 x2 x3 x4 x5 x6
      replace x0 := pw_cell_below HB.out x0
      replace x1 := pw_cell_below HB.out x1
      replace x2 := pw_cell_below HB.out x2
      replace x3 := pw_cell_below HB.out x3
      replace x4 := pw_cell_below HB.out x4
      replace x5 := pw_cell_below HB.out x5
      replace x6 := pw_cell_below HB.out x6
      have HSN := Aside0.mk (wrong_snoc xs k hlt)
      have hl2 := wrong_len xs k
      generalize (xs.take k).map (fun x => noReply x.f0 100) = S at HT HSN hl2
      go_wp2_with fail
      have BX := below_alloc (Below.refl wr.heap.size wr) (.cells #[.int .u8 (rd_T26 xs k).f0, .string (rd_T26 xs k).f1, .string (rd_T26 xs k).f2, .string (rd_T26 xs k).f3.f0, .string (rd_T26 xs k).f3.f1, .bool (rd_T26 xs k).f3.f2, .int .i64 (rd_T26 xs k).f4] 26 (0, 0))
      have HBX := Aside0.mk (heap_new wr (.cells #[.int .u8 (rd_T26 xs k).f0, .string (rd_T26 xs k).f1, .string (rd_T26 xs k).f2, .string (rd_T26 xs k).f3.f0, .string (rd_T26 xs k).f3.f1, .bool (rd_T26 xs k).f3.f2, .int .i64 (rd_T26 xs k).f4] 26 (0, 0)))
      have HB1 := Aside0.mk (HB.out.trans (BX.mono HB.out.size))
      refine (cells_Right_calls A c l _ (Kd.C_below HR0.out HB1.out)).mono ?_
      rintro e w3 ⟨he, hb⟩
      rw [HK.out] at he
      obtain rfl := he
      have HBX := Aside0.mk (blk_below HBX.out hb)
      have HT2 := Aside0.mk (Kd.R_below (Kd.R_below HT.out BX) hb)
      have HB2 := Aside0.mk (HB1.out.trans (hb.mono HB1.out.size))
      have HL2 := Aside0.mk (show S.length < 1099511627775 by omega)
      clear hb BX hl2 x0 x1 x2 x3 x4 x5 x6
      have x0 := (blk_cell HBX.out 0).trans rfl
      go_wp2_with (at_builtin; go_must (refine app1R (w0 := w) w.heap.size rfl (.tmp 25) (.tmp 29) rfl u6 S (noReply (rd_T26 xs k).f0 100) none 0 0 rfl rfl HT2.out (Nat.le_refl _) (Kd.R_nil k40 40 _ _ _) HB2.out HB2.out.size HL2.out ?_); intro v1 w6 h1 h2 h3 h4)
      go_roundw
      case rel => exact ⟨k + 1, by omega, by go_num, rfl, ⟨by rw [HSN.out]; exact h1⟩, ⟨h2⟩⟩
      case measure => simp [intOf]; omega
    · obtain rfl : k = xs.length := by omega
      clear hlt
      go_wp2_with fail
      go_ret2
      have e1 : xs.take xs.length = xs := List.take_length
      exact ⟨_, _, rfl, Kd.R_nil k40 40 _ _ _, e1 ▸ HT.out, HB.out⟩
theorem Run_calls (A B : Option Addr) (c d : Nat) (l : List S40) (xs : List S26) (w : World) (HR : Kd.C k40 w A l.length l) (HX : Kd.C k26 w B xs.length xs) (hc : l.length ≤ c) (hl : l.length + xs.length < 1099511627775) :
    Calls Try.prog 22 #[.slice A l.length c, .slice B xs.length d] w (RunPost (runS l xs) w) := by
  unfold runS
  cases hr : rightB l with
  | true => exact Run_right A B c d l xs w HR HX hc hl hr
  | false => exact Run_wrong A B c d l xs w HR HX hl hr
theorem refRun_right (A B : Option Addr) (c d : Nat) (l : List S40) (xs : List S26) (w : World) (HR : Kd.C k40 w A l.length l) (HX : Kd.C k26 w B xs.length xs) (hl : l.length + xs.length < 1099511627775) (hr : rightB l = true) :
    Calls Try.prog 23 #[.slice A l.length c, .slice B xs.length d] w (RunPost (runR l xs) w) := by
  have HR0 := Aside0.mk HR
  have HX0 := Aside0.mk HX
  have HK := Aside0.mk hr
  have hmx := Kd.C_max HX
  clear HR HX hr
  go_enter Try.func23, Try.ntmps23
  go_wp2_with fail
  refine (ref10_Right_calls A c l _ HR0.out).mono ?_
  rintro e w1 ⟨he, hb⟩
  rw [HK.out] at he
  obtain rfl := he
  have HB := Aside0.mk hb
  clear hb
  go_wp2_with fail
  refine (Copy_calls A c l _ (Kd.C_below HR0.out HB.out) (by omega)).mono ?_
  rintro e w2 ⟨v1, rfl, ho, hb⟩
  have HO := Aside0.mk (Kd.R_lower ho HB.out.size)
  have HB := Aside0.mk (HB.out.trans (hb.mono HB.out.size))
  clear hb ho
  go_wp2_with fail
  go_loopw [6, 8, 9] (fun v6 v8 v9 w' => ∃ k : Nat, k ≤ xs.length ∧ v9 = .int .i64 k ∧ Aside0 (Own w' w.heap.size v8 (runR l (xs.take k)).1) ∧ Aside0 (Kd.R k34c 34 w' w.heap.size (fun _ => True) v6 ((runR l (xs.take k)).2)) ∧ Aside0 (Below w.heap.size w w')) (fun _ _ v9 _ => xs.length - (intOf v9).toNat)
  case atStart => exact ⟨0, by omega, rfl, HO, ⟨Kd.R_nil k34c 34 _ _ _⟩, HB⟩
  case round =>
    obtain ⟨k, hk, rfl, HO, HT, HB⟩ := hrel
    by_cases hlt : k < xs.length
    · obtain ⟨ad, rfl, x0, x1, x2, x3, x4, x5, x6⟩ := at_T26 HX0.out k (by omega) (by omega)
      simp only [Int.toNat_natCast] at x0 x1 x2 x3 x4 x5 x6
      replace x0 := pw_cell_below HB.out x0
      replace x1 := pw_cell_below HB.out x1
      replace x2 := pw_cell_below HB.out x2
      replace x3 := pw_cell_below HB.out x3
      replace x4 := pw_cell_below HB.out x4
      replace x5 := pw_cell_below HB.out x5
      replace x6 := pw_cell_below HB.out x6
      have HSN := Aside0.mk (show runR l (xs.take (k + 1)) = stepR (runR l (xs.take k)) (rd_T26 xs k) by rw [take_snoc26 xs k hlt, runR_snoc])
      have hlen := runR_len l (xs.take k)
      rw [List.length_take] at hlen
      obtain ⟨S, hS⟩ : ∃ S, runR l (xs.take k) = S := ⟨_, rfl⟩
      rw [hS] at hlen HO HT HSN
      have hl1 : S.1.length < 1099511627775 := by omega
      have hl2 : S.2.length < 1099511627775 := by omega
      clear hS hlen
      obtain ⟨V8, c8, rfl, hc8, hC8⟩ := Kd.R_reads HO.out
      have HC8 := Aside0.mk hC8
      clear hC8 hc8
      go_wp2_with fail
      refine (refDo_calls A c l (rd_T26 xs k) _ (Kd.C_below HR0.out HB.out) (by omega)).mono ?_
      rintro e w3 ⟨va, vc, rfl, hva, hvc, -, hb⟩
      obtain ⟨A3, n3, rfl, hn3, cap3, ho3⟩ := hvc
      generalize doS l (rd_T26 xs k) = P1 at *
      have BB := Aside0.mk hb
      have BZ := below_alloc (Below.refl w3.heap.size w3) (.cells #[.int .i64 0, .int .u8 (rd_T26 xs k).f0, .int .i64 P1.2.f2, .int .u64 0, .bool P1.2.f4, .string P1.2.f5, .slice A3 P1.2.f6.length n3] 34 (0, 0))
      have HBZ := Aside0.mk (heap_new w3 (.cells #[.int .i64 0, .int .u8 (rd_T26 xs k).f0, .int .i64 P1.2.f2, .int .u64 0, .bool P1.2.f4, .string P1.2.f5, .slice A3 P1.2.f6.length n3] 34 (0, 0)))
      have HSZ := Aside0.mk hb.size
      have BB := Aside0.mk (BB.out.trans (BZ.mono BB.out.size))
      replace x0 := pw_cell_below BB.out x0
      replace x1 := pw_cell_below BB.out x1
      replace x2 := pw_cell_below BB.out x2
      replace x3 := pw_cell_below BB.out x3
      replace x4 := pw_cell_below BB.out x4
      replace x5 := pw_cell_below BB.out x5
      replace x6 := pw_cell_below BB.out x6
      clear hb hva hn3 ho3 BZ
      go_wp2_with fail
      refine (refDo_calls V8 c8 S.1 (rd_T26 xs k) _ (Kd.C_below HC8.out BB.out) (by omega)).mono ?_
      rintro e w4 ⟨va, vc, rfl, hva, hvc, -, hb⟩
      obtain ⟨A4, n4, rfl, hn4, cap4, ho4⟩ := hvc
      have hfix := do_fixed S.1 (rd_T26 xs k)
      obtain ⟨P, hP⟩ : ∃ P, doS S.1 (rd_T26 xs k) = P := ⟨_, rfl⟩
      have HSN := Aside0.mk (show runR l (xs.take (k + 1)) = (P.1, S.2 ++ [P.2]) by rw [HSN.out]; unfold stepR; rw [hP])
      rw [hP] at hva hn4 ho4 hfix
      rw [hP]
      have BB := Aside0.mk (BB.out.trans (hb.mono BB.out.size))
      have HBZ := Aside0.mk (blk_below HBZ.out hb)
      have HVA := Aside0.mk hva
      have HN4 := Aside0.mk hn4
      have HO4 := Aside0.mk ho4
      have HFX := Aside0.mk hfix
      clear hb hva hn4 ho4 hfix hP x0 x1 x2 x3 x4 x5 x6
      have z0 := (blk_cell HBZ.out 0).trans rfl
      have z1 := (blk_cell HBZ.out 1).trans rfl
      have z2 := (blk_cell HBZ.out 2).trans rfl
      have z3 := (blk_cell HBZ.out 3).trans rfl
      have z4 := (blk_cell HBZ.out 4).trans rfl
      have z5 := (blk_cell HBZ.out 5).trans rfl
      have z6 := (blk_cell HBZ.out 6).trans rfl
      have f0 := blk_frozen HBZ.out 0
      have f1 := blk_frozen HBZ.out 1
      have f2 := blk_frozen HBZ.out 2
      have f3 := blk_frozen HBZ.out 3
      have f4 := blk_frozen HBZ.out 4
      have f5 := blk_frozen HBZ.out 5
      have f6 := blk_frozen HBZ.out 6
      have HF := Aside0.mk (show Only w4 _ w3.heap.size #[.int .i64 0, .int .u8 (rd_T26 xs k).f0, .int .i64 P.2.f2, .int .u64 0, .bool P.2.f4, .string P.2.f5, .slice A4 P.2.f6.length n4] 34 from (((((((Only.refl HBZ.out).set 0 (.int .i64 0)).set 1 (.int .u8 (rd_T26 xs k).f0)).set 2 (.int .i64 P.2.f2)).set 3 (.int .u64 0)).set 4 (.bool P.2.f4)).set 5 (.string P.2.f5)).set 6 (.slice A4 P.2.f6.length n4))
      go_upto_region 13 with fail
      generalize (((((((w4.setCell ⟨w3.heap.size, 0, none⟩ (.int .i64 0)).setCell ⟨w3.heap.size, 1, none⟩ (.int .u8 (rd_T26 xs k).f0)).setCell ⟨w3.heap.size, 2, none⟩ (.int .i64 P.2.f2)).setCell ⟨w3.heap.size, 3, none⟩ (.int .u64 0)).setCell ⟨w3.heap.size, 4, none⟩ (.bool P.2.f4)).setCell ⟨w3.heap.size, 5, none⟩ (.string P.2.f5)).setCell ⟨w3.heap.size, 6, none⟩ (.slice A4 P.2.f6.length n4)) = W5 at HF ⊢
      clear z0 z1 z2 z3 z4 z5 z6 f0 f1 f2 f3 f4 f5 f6
      have z0 := (blk_cell HF.out.here 0).trans rfl
      have z1 := (blk_cell HF.out.here 1).trans rfl
      have z2 := (blk_cell HF.out.here 2).trans rfl
      have z3 := (blk_cell HF.out.here 3).trans rfl
      have z4 := (blk_cell HF.out.here 4).trans rfl
      have z5 := (blk_cell HF.out.here 5).trans rfl
      have z6 := (blk_cell HF.out.here 6).trans rfl
      skip
      have HVA2 := Aside0.mk (Kd.R_lower (own_only HVA.out HBZ.out HF.out (by decide)) (show w.heap.size ≤ _ from Nat.le_trans HB.out.size (by simp only [World.size_alloc]; have := HSZ.out; omega)))
      have HO42 := Aside0.mk (Kd.R_lower (own_only HO4.out HBZ.out HF.out (by decide)) (show w.heap.size ≤ _ from Nat.le_trans HB.out.size (by simp only [World.size_alloc]; have := HSZ.out; omega)))
      have HT2 := Aside0.mk (row_only HT.out BB.out HF.out HSZ.out)
      have HB2 := Aside0.mk ((HB.out.trans (BB.out.mono HB.out.size)).trans (HF.out.below (show w.heap.size ≤ w3.heap.size from Nat.le_trans HB.out.size HSZ.out)))
      have HL2 := Aside0.mk hl2
      clear hl1 hl2
      go_wp2_with (at_builtin; go_must (refine app1R (w0 := w) w.heap.size rfl (.tmp 43) (.tmp 45) rfl u6 S.2 ⟨0, (rd_T26 xs k).f0, P.2.f2, 0, P.2.f4, P.2.f5, P.2.f6⟩ A4 n4 cap4 rfl rfl HT2.out HN4.out HO42.out HB2.out HB2.out.size HL2.out ?_); intro v1 w6 h1 h2 h3 h4)
      have g1 := cells_grown HVA2.out HT2.out h4
      rw [HFX.out] at h1
      go_roundw
      case rel => exact ⟨k + 1, by omega, by go_num, ⟨by rw [HSN.out]; exact g1⟩, ⟨by rw [HSN.out]; exact h1⟩, ⟨h2⟩⟩
      case measure => simp [intOf]; omega
    · obtain rfl : k = xs.length := by omega
      clear hlt
      go_wp2_with fail
      go_ret2
      have e1 : xs.take xs.length = xs := List.take_length
      exact ⟨_, _, rfl, e1 ▸ HO.out, e1 ▸ HT.out, HB.out⟩
theorem refRun_wrong (A B : Option Addr) (c d : Nat) (l : List S40) (xs : List S26) (w : World) (HR : Kd.C k40 w A l.length l) (HX : Kd.C k26 w B xs.length xs) (hl : l.length + xs.length < 1099511627775) (hr : rightB l = false) :
    Calls Try.prog 23 #[.slice A l.length c, .slice B xs.length d] w (RunPost ([], xs.map (fun x => noReply x.f0 100)) w) := by
  have HR0 := Aside0.mk HR
  have HX0 := Aside0.mk HX
  have HK := Aside0.mk hr
  have hmx := Kd.C_max HX
  clear HR HX hr
  go_enter Try.func23, Try.ntmps23
  go_wp2_with fail
  refine (ref10_Right_calls A c l _ HR0.out).mono ?_
  rintro e w1 ⟨he, hb⟩
  rw [HK.out] at he
  obtain rfl := he
  have HB := Aside0.mk hb
  clear hb
  go_wp2_with fail
  go_loopw [6, 8, 9] (fun v6 v8 v9 w' => ∃ k : Nat, k ≤ xs.length ∧ v9 = .int .i64 k ∧ Aside0 (Own w' w.heap.size v8 []) ∧ Aside0 (Kd.R k34c 34 w' w.heap.size (fun _ => True) v6 ((xs.take k).map (fun x => noReply x.f0 100))) ∧ Aside0 (Below w.heap.size w w')) (fun _ _ v9 _ => xs.length - (intOf v9).toNat)
  case atStart => exact ⟨0, by omega, rfl, ⟨Kd.R_nil k40 40 _ _ _⟩, ⟨Kd.R_nil k34c 34 _ _ _⟩, HB⟩
  case round =>
    obtain ⟨k, hk, rfl, HO, HT, HB⟩ := hrel
    by_cases hlt : k < xs.length
    · obtain ⟨ad, rfl, x0, x1, x2, x3, x4, x5, x6⟩ := at_T26 HX0.out k (by omega) (by omega)
      simp only [Int.toNat_natCast] at x0 x1 x2 x3 x4 x5 x6
      replace x0 := pw_cell_below HB.out x0
      replace x1 := pw_cell_below HB.out x1
      replace x2 := pw_cell_below HB.out x2
      replace x3 := pw_cell_below HB.out x3
      replace x4 := pw_cell_below HB.out x4
      replace x5 := pw_cell_below HB.out x5
      replace x6 := pw_cell_below HB.out x6
      have HSN := Aside0.mk (wrong_snoc xs k hlt)
      have hl2 := wrong_len xs k
      generalize (xs.take k).map (fun x => noReply x.f0 100) = S at HT HSN hl2
      have HL2 := Aside0.mk (show S.length < 1099511627775 by omega)
      go_wp2_with fail
      refine (refDo_calls A c l (rd_T26 xs k) _ (Kd.C_below HR0.out HB.out) (by omega)).mono ?_
      rintro e w3 ⟨va, vc, rfl, hva, hvc, -, hb⟩
      obtain ⟨A3, n3, rfl, hn3, cap3, ho3⟩ := hvc
      have hfix := do_fixed l (rd_T26 xs k)
      have hdw := do_wrong (rd_T26 xs k) HK.out
      obtain ⟨P, hP⟩ : ∃ P, doS l (rd_T26 xs k) = P := ⟨_, rfl⟩
      rw [hP] at hva hn3 ho3 hfix hdw
      rw [hP]
      have HP1 := Aside0.mk (show P.1 = [] by rw [hdw])
      have HP2 := Aside0.mk (show P.2 = noReply (rd_T26 xs k).f0 100 by rw [hdw])
      have HFX := Aside0.mk hfix
      have BZ := below_alloc (Below.refl w3.heap.size w3) (.cells #[.int .i64 0, .int .u8 (rd_T26 xs k).f0, .int .i64 P.2.f2, .int .u64 0, .bool P.2.f4, .string P.2.f5, .slice A3 P.2.f6.length n3] 34 (0, 0))
      have HBZ := Aside0.mk (heap_new w3 (.cells #[.int .i64 0, .int .u8 (rd_T26 xs k).f0, .int .i64 P.2.f2, .int .u64 0, .bool P.2.f4, .string P.2.f5, .slice A3 P.2.f6.length n3] 34 (0, 0)))
      have HVA2 := Aside0.mk (Kd.R_lower (Kd.R_below hva BZ) (Nat.le_trans HB.out.size (Nat.le_refl _)))
      have HO42 := Aside0.mk (Kd.R_lower (Kd.R_below ho3 BZ) HB.out.size)
      have HN4 := Aside0.mk hn3
      have HT2 := Aside0.mk (Kd.R_below (Kd.R_below HT.out hb) BZ)
      have HB2 := Aside0.mk ((HB.out.trans (hb.mono HB.out.size)).trans (BZ.mono (Nat.le_trans HB.out.size hb.size)))
      clear hb BZ hva ho3 hn3 hfix hdw hP x0 x1 x2 x3 x4 x5 x6
      go_upto_region 13 with fail
      generalize w3.alloc (.cells #[.int .i64 0, .int .u8 (rd_T26 xs k).f0, .int .i64 P.2.f2, .int .u64 0, .bool P.2.f4, .string P.2.f5, .slice A3 P.2.f6.length n3] 34 (0, 0)) = W5 at HBZ HVA2 HO42 HT2 HB2 ⊢
      have z0 := (blk_cell HBZ.out 0).trans rfl
      have z1 := (blk_cell HBZ.out 1).trans rfl
      have z2 := (blk_cell HBZ.out 2).trans rfl
      have z3 := (blk_cell HBZ.out 3).trans rfl
      have z4 := (blk_cell HBZ.out 4).trans rfl
      have z5 := (blk_cell HBZ.out 5).trans rfl
      have z6 := (blk_cell HBZ.out 6).trans rfl
      go_wp2_with (at_builtin; go_must (refine app1R (w0 := w) w.heap.size rfl (.tmp 43) (.tmp 45) rfl u6 S ⟨0, (rd_T26 xs k).f0, P.2.f2, 0, P.2.f4, P.2.f5, P.2.f6⟩ A3 n3 cap3 rfl rfl HT2.out HN4.out HO42.out HB2.out HB2.out.size HL2.out ?_); intro v1 w6 h1 h2 h3 h4)
      have g1 := cells_grown HVA2.out HT2.out h4
      rw [HFX.out, HP2.out] at h1
      rw [HP1.out] at g1
      go_roundw
      case rel => exact ⟨k + 1, by omega, by go_num, ⟨g1⟩, ⟨by rw [HSN.out]; exact h1⟩, ⟨h2⟩⟩
      case measure => simp [intOf]; omega
    · obtain rfl : k = xs.length := by omega
      clear hlt
      go_wp2_with fail
      go_ret2
      have e1 : xs.take xs.length = xs := List.take_length
      exact ⟨_, _, rfl, HO.out, e1 ▸ HT.out, HB.out⟩
theorem refRun_calls (A B : Option Addr) (c d : Nat) (l : List S40) (xs : List S26) (w : World) (HR : Kd.C k40 w A l.length l) (HX : Kd.C k26 w B xs.length xs) (hl : l.length + xs.length < 1099511627775) :
    Calls Try.prog 23 #[.slice A l.length c, .slice B xs.length d] w (RunPost (runS l xs) w) := by
  unfold runS
  cases hr : rightB l with
  | true => exact refRun_right A B c d l xs w HR HX hl hr
  | false => exact refRun_wrong A B c d l xs w HR HX hl hr
end Go.Proofs.Ytcnmefocbjilbaa.G
namespace Go.Proofs.Ytcnmefocbjilbaa.G
open Go.RowKit Go.Proofs.YtcnmefocbjilbaaW.PrintWords Go.Proofs.YtcnmefocbjilbaaW.PrintLast Go.Proofs.YtcnmefocbjilbaaW.PrintMore
open Go.Proofs.YtcnmefocbjilbaaFlat
set_option maxHeartbeats 2000000
set_option maxRecDepth 20000

/-! ### rows of replies compared; calls looked at -/
def alikeAll (xs ys : List S34) : Prop := xs.length = ys.length ∧ ∀ i : Nat, i < xs.length → alike (rd_T34 xs i) (rd_T34 ys i)
def AlikeAllPost (xs ys : List S34) (w : World) (e : Ending) (w' : World) : Prop := (∃ b, e = .returned (.bool b) ∧ (b = true ↔ alikeAll xs ys)) ∧ Below w.heap.size w w'
theorem EqualFunc_calls (A B : Option Addr) (c d : Nat) (xs ys : List S34) (w : World) (HX : Kd.C k34 w A xs.length xs) (HY : Kd.C k34 w B ys.length ys) :
    Calls Try.prog 48 #[.slice A xs.length c, .slice B ys.length d, .func (.func 15) #[] #[]] w (AlikeAllPost xs ys w) := by
  have HX0 := Aside0.mk HX
  have HY0 := Aside0.mk HY
  have hm := Kd.C_max HX
  have hm2 := Kd.C_max HY
  clear HX HY
  by_cases hl : xs.length = ys.length
  · have HL := Aside0.mk hl
    rw [← hl]
    clear hl
    go_enter Try.func48, Try.ntmps48
    go_wp2
    go_loopw [17] (fun v w' => ∃ k : Nat, k ≤ xs.length ∧ v = .int .i64 k ∧ Aside0 (∀ i : Nat, i < k → alike (rd_T34 xs i) (rd_T34 ys i)) ∧ Aside0 (Below w.heap.size w w')) (fun v _ => xs.length - (intOf v).toNat)
    case atStart => exact ⟨0, by omega, rfl, ⟨fun i h => absurd h (by omega)⟩, ⟨Below.refl _ _⟩⟩
    case round =>
      obtain ⟨k, hk, rfl, HF, HB⟩ := hrel
      by_cases hlt : k < xs.length
      · obtain ⟨ad, A6, c6, rfl, x0, x1, x2, x3, x4, x5, x6, xl, xg⟩ := at_T34 HX0.out k (by omega) (by omega)
        obtain ⟨bd, B6, d6, rfl, y0, y1, y2, y3, y4, y5, y6, yl, yg⟩ := at_T34 HY0.out k (by omega) (by have := HL.out; omega)
        simp only [Int.toNat_natCast] at x0 x1 x2 x3 x4 x5 x6 y0 y1 y2 y3 y4 y5 y6
        replace x0 := pw_cell_below HB.out x0
        replace x1 := pw_cell_below HB.out x1
        replace x2 := pw_cell_below HB.out x2
        replace x3 := pw_cell_below HB.out x3
        replace x4 := pw_cell_below HB.out x4
        replace x5 := pw_cell_below HB.out x5
        replace x6 := pw_cell_below HB.out x6
        replace y0 := pw_cell_below (below_alloc (Below.refl wr.heap.size wr) (.cells #[.int .i64 (rd_T34 xs k).f0, .int .u8 (rd_T34 xs k).f1, .int .i64 (rd_T34 xs k).f2, .int .u64 (rd_T34 xs k).f3, .bool (rd_T34 xs k).f4, .string (rd_T34 xs k).f5, .slice A6 (rd_T34 xs k).f6.length c6] 34 (0, 0))) (pw_cell_below HB.out y0)
        replace y1 := pw_cell_below (below_alloc (Below.refl wr.heap.size wr) (.cells #[.int .i64 (rd_T34 xs k).f0, .int .u8 (rd_T34 xs k).f1, .int .i64 (rd_T34 xs k).f2, .int .u64 (rd_T34 xs k).f3, .bool (rd_T34 xs k).f4, .string (rd_T34 xs k).f5, .slice A6 (rd_T34 xs k).f6.length c6] 34 (0, 0))) (pw_cell_below HB.out y1)
        replace y2 := pw_cell_below (below_alloc (Below.refl wr.heap.size wr) (.cells #[.int .i64 (rd_T34 xs k).f0, .int .u8 (rd_T34 xs k).f1, .int .i64 (rd_T34 xs k).f2, .int .u64 (rd_T34 xs k).f3, .bool (rd_T34 xs k).f4, .string (rd_T34 xs k).f5, .slice A6 (rd_T34 xs k).f6.length c6] 34 (0, 0))) (pw_cell_below HB.out y2)
        replace y3 := pw_cell_below (below_alloc (Below.refl wr.heap.size wr) (.cells #[.int .i64 (rd_T34 xs k).f0, .int .u8 (rd_T34 xs k).f1, .int .i64 (rd_T34 xs k).f2, .int .u64 (rd_T34 xs k).f3, .bool (rd_T34 xs k).f4, .string (rd_T34 xs k).f5, .slice A6 (rd_T34 xs k).f6.length c6] 34 (0, 0))) (pw_cell_below HB.out y3)
        replace y4 := pw_cell_below (below_alloc (Below.refl wr.heap.size wr) (.cells #[.int .i64 (rd_T34 xs k).f0, .int .u8 (rd_T34 xs k).f1, .int .i64 (rd_T34 xs k).f2, .int .u64 (rd_T34 xs k).f3, .bool (rd_T34 xs k).f4, .string (rd_T34 xs k).f5, .slice A6 (rd_T34 xs k).f6.length c6] 34 (0, 0))) (pw_cell_below HB.out y4)
        replace y5 := pw_cell_below (below_alloc (Below.refl wr.heap.size wr) (.cells #[.int .i64 (rd_T34 xs k).f0, .int .u8 (rd_T34 xs k).f1, .int .i64 (rd_T34 xs k).f2, .int .u64 (rd_T34 xs k).f3, .bool (rd_T34 xs k).f4, .string (rd_T34 xs k).f5, .slice A6 (rd_T34 xs k).f6.length c6] 34 (0, 0))) (pw_cell_below HB.out y5)
        replace y6 := pw_cell_below (below_alloc (Below.refl wr.heap.size wr) (.cells #[.int .i64 (rd_T34 xs k).f0, .int .u8 (rd_T34 xs k).f1, .int .i64 (rd_T34 xs k).f2, .int .u64 (rd_T34 xs k).f3, .bool (rd_T34 xs k).f4, .string (rd_T34 xs k).f5, .slice A6 (rd_T34 xs k).f6.length c6] 34 (0, 0))) (pw_cell_below HB.out y6)
        have XG := Aside0.mk (Kd.C_below xg HB.out)
        have YG := Aside0.mk (Kd.C_below yg HB.out)
        have HLT := Aside0.mk (show (k : Nat) < ys.length by have := HL.out; omega)
        have hlt2 : (k : Int) < (ys.length : Int) := by have := HLT.out; omega
        clear xl xg yl yg
        go_wp2_with fail
        refine (modelSame_calls A6 B6 c6 d6 (rd_T34 xs k) (rd_T34 ys k) _ (Kd.C_alloc (Kd.C_alloc XG.out _) _) (Kd.C_alloc (Kd.C_alloc YG.out _) _)).mono ?_
        rintro e w3 ⟨⟨b, rfl, hbb⟩, hb⟩
        have HBB := Aside0.mk hbb
        have HB2 := Aside0.mk ((below_alloc (below_alloc HB.out _) _).trans (hb.mono (Nat.le_trans HB.out.size (by simp only [World.size_alloc]; omega))))
        clear hb hbb x0 x1 x2 x3 x4 x5 x6 y0 y1 y2 y3 y4 y5 y6
        cases b with
        | false =>
          go_wp2_with fail
          go_ret
          exact ⟨⟨false, rfl, by simp only [Bool.false_eq_true, false_iff]; exact fun h => absurd (HBB.out.2 (h.2 k hlt)) (by decide)⟩, HB2.out⟩
        | true =>
          go_wp2_with fail
          go_roundw
          case rel => exact ⟨k + 1, by omega, by go_num, ⟨fun i h => by
            rcases Nat.lt_or_ge i k with h1 | h1
            · exact HF.out i h1
            · obtain rfl : i = k := by omega
              exact HBB.out.1 (by trivial)⟩, HB2⟩
          case measure => simp [intOf]; omega
      · obtain rfl : k = xs.length := by omega
        clear hlt
        go_wp2
        go_ret
        exact ⟨⟨true, rfl, by simp only [true_iff]; exact ⟨HL.out, HF.out⟩⟩, HB.out⟩
  · have HL := Aside0.mk hl
    have hd : decide ((xs.length : Int) ≠ (ys.length : Int)) = true := by simp; omega
    have hne : ¬ ((xs.length : Int) = (ys.length : Int)) := by omega
    go_enter Try.func48, Try.ntmps48
    go_wp2
    go_ret
    exact ⟨⟨false, rfl, by simp only [Bool.false_eq_true, false_iff]; exact fun e => HL.out e.1⟩, Below.refl _ _⟩
def ManyPost (l : List S26) (w : World) (e : Ending) (w' : World) : Prop := (∃ b, e = .returned (.bool b) ∧ (b = false → l.length ≤ 20)) ∧ Below w.heap.size w w'
theorem many_calls (A : Option Addr) (c : Nat) (l : List S26) (w : World) (HR : Kd.C k26 w A l.length l) :
    Calls Try.prog 18 #[.slice A l.length c] w (ManyPost l w) := by
  have HR0 := Aside0.mk HR
  have hm := Kd.C_max HR
  clear HR
  go_enter Try.func18, Try.ntmps18
  go_wp2
  go_loopw [3] (fun v3 w' => ∃ (k : Nat), k ≤ l.length ∧ k ≤ 20 ∧ v3 = .int .i64 k ∧ Aside0 (Below w.heap.size w w')) (fun v3 _ => l.length - (intOf v3).toNat)
  case atStart => exact ⟨0, by omega, by omega, rfl, ⟨Below.refl _ _⟩⟩
  case round =>
    obtain ⟨k, hk, hk2, rfl, HB⟩ := hrel
    by_cases hlt : k < l.length ∧ k < 20
    · obtain ⟨hlt, h20⟩ := hlt
      obtain ⟨ad, rfl, x0, x1, x2, x3, x4, x5, x6⟩ := at_T26 HR0.out k (by omega) (by omega)
      simp only [Int.toNat_natCast] at x0 x1 x2 x3 x4 x5 x6
      replace x0 := pw_cell_below HB.out x0
      replace x1 := pw_cell_below HB.out x1
      replace x2 := pw_cell_below HB.out x2
      replace x3 := pw_cell_below HB.out x3
      replace x4 := pw_cell_below HB.out x4
      replace x5 := pw_cell_below HB.out x5
      replace x6 := pw_cell_below HB.out x6
      have d1 : decide ((k : Int) < (l.length : Int)) = true := decide_eq_true (by omega)
      go_wp2_with fail
      refine (Small_calls (rd_T26 l k) _).mono ?_
      rintro e w2 ⟨⟨b, rfl⟩, hb⟩
      have HB2 := Aside0.mk (HB.out.trans (hb.mono HB.out.size))
      clear hb x0 x1 x2 x3 x4 x5 x6
      cases b with
      | false =>
        go_wp2_with fail
        go_ret
        exact ⟨⟨_, rfl, fun h => by simp at h⟩, HB2.out⟩
      | true =>
        go_wp2_with fail
        go_roundw
        case rel => exact ⟨k + 1, by omega, by omega, by go_num, HB2⟩
        case measure => simp [intOf]; omega
    · by_cases hlt2 : k < l.length
      · have h20 : ¬ (k < 20) := by omega
        have d2 : decide ((k : Int) < 20) = false := decide_eq_false (by omega)
        go_wp2_with fail
        go_ret
        exact ⟨⟨_, rfl, fun h => by simp at h; omega⟩, HB.out⟩
      · obtain rfl : k = l.length := by omega
        clear hlt hlt2
        go_wp2_with fail
        go_ret
        exact ⟨⟨_, rfl, fun h => by simp at h; omega⟩, HB.out⟩
end Go.Proofs.Ytcnmefocbjilbaa.G
namespace Go.Proofs.Ytcnmefocbjilbaa.G
open Go.RowKit Go.Proofs.YtcnmefocbjilbaaW.PrintWords Go.Proofs.YtcnmefocbjilbaaW.PrintLast Go.Proofs.YtcnmefocbjilbaaW.PrintMore
open Go.Proofs.YtcnmefocbjilbaaFlat
set_option maxHeartbeats 2000000
set_option maxRecDepth 20000

/-! ### what Serial tells -/
def nowAt (l : List S40) (ds : List S50) (k : Nat) : List S40 := (ds.take k).foldl (fun n d => (runS n d.f1).1) l
def fitsAt (l : List S40) (ds : List S50) (j : Nat) : Prop := alikeAll (runS (nowAt l ds j) (rd_T50 ds j).f1).2 (rd_T50 ds j).f2
def SerialS (l : List S40) (ds : List S50) (m : List S40) (n : Nat) : Prop :=
  (rightB l = false ∧ m = [] ∧ n = 0) ∨ (rightB l = true ∧ n ≤ ds.length ∧ (∀ j, j < n → fitsAt l ds j) ∧ (n < ds.length → ¬ fitsAt l ds n) ∧ m = nowAt l ds n)
theorem serial_one {l : List S40} {ds : List S50} {m m' : List S40} {n n' : Nat} (h : SerialS l ds m n) (h' : SerialS l ds m' n') : m = m' ∧ n = n' := by
  rcases h with ⟨h1, rfl, rfl⟩ | ⟨h1, h2, h3, h4, rfl⟩
  · rcases h' with ⟨k1, rfl, rfl⟩ | ⟨k1, _⟩
    · exact ⟨rfl, rfl⟩
    · rw [h1] at k1; cases k1
  · rcases h' with ⟨k1, _⟩ | ⟨k1, k2, k3, k4, rfl⟩
    · rw [h1] at k1; cases k1
    · have : n = n' := by
        rcases Nat.lt_trichotomy n n' with h | h | h
        · exact absurd (k3 n h) (h4 (by omega))
        · exact h
        · exact absurd (h3 n' h) (k4 (by omega))
      subst this
      exact ⟨rfl, rfl⟩
theorem take_snoc50 (l : List S50) (k : Nat) (h : k < l.length) : l.take (k + 1) = l.take k ++ [rd_T50 l k] := by
  have e : rd_T50 l k = l[k] := by simp [rd_T50, h]
  rw [e, List.take_succ_eq_append_getElem h]
theorem nowAt_succ (l : List S40) (ds : List S50) (k : Nat) (h : k < ds.length) : nowAt l ds (k + 1) = (runS (nowAt l ds k) (rd_T50 ds k).f1).1 := by
  unfold nowAt
  rw [take_snoc50 ds k h, List.foldl_append]
  rfl
theorem runS_len (l : List S40) (xs : List S26) : (runS l xs).1.length ≤ l.length + xs.length ∧ (runS l xs).2.length = xs.length := by
  unfold runS
  split
  · exact runR_len l xs
  · simp
/-- No map on the way is too great. -/
def Fair (l : List S40) (ds : List S50) : Prop := (∀ k, k ≤ ds.length → (nowAt l ds k).length < 549755813888) ∧ ∀ k : Nat, k < ds.length → (rd_T50 ds k).f1.length < 549755813887
def SerialPost (l : List S40) (ds : List S50) (w : World) (e : Ending) (w' : World) : Prop :=
  ∃ v m n, e = .returned (.tuple #[v, .int .i64 ((n : Nat) : Int)]) ∧ Own w' w.heap.size v m ∧ SerialS l ds m n ∧ Below w.heap.size w w'

theorem Serial_calls (A B : Option Addr) (c d : Nat) (l : List S40) (ds : List S50) (w : World) (HR : Kd.C k40 w A l.length l) (HX : Kd.C k50 w B ds.length ds) (hf : Fair l ds) (hl : l.length < 549755813888) :
    Calls Try.prog 20 #[.slice A l.length c, .slice B ds.length d] w (SerialPost l ds w) := by
  have HR0 := Aside0.mk HR
  have HX0 := Aside0.mk HX
  have HFR := Aside0.mk hf
  have hmx := Kd.C_max HX
  clear HR HX hf
  cases hr : rightB l with
  | false =>
    have HK := Aside0.mk hr
    clear hr
    go_enter Try.func20, Try.ntmps20
    go_wp2_with fail
    refine (cells_Right_calls A c l _ HR0.out).mono ?_
    rintro e w1 ⟨he, hb⟩
    rw [HK.out] at he
    obtain rfl := he
    have HB := Aside0.mk hb
    clear hb
    go_wp2_with fail
    go_ret2
    exact ⟨_, [], 0, rfl, Kd.R_nil k40 40 _ _ _, .inl ⟨HK.out, rfl, rfl⟩, HB.out⟩
  | true =>
    have HK := Aside0.mk hr
    clear hr
    go_enter Try.func20, Try.ntmps20
    go_wp2_with fail
    refine (cells_Right_calls A c l _ HR0.out).mono ?_
    rintro e w1 ⟨he, hb⟩
    rw [HK.out] at he
    obtain rfl := he
    have HB := Aside0.mk hb
    clear hb
    go_wp2_with fail
    refine (Clone_calls A c l _ (Kd.C_below HR0.out HB.out) (by omega)).mono ?_
    rintro e w2 ⟨v1, rfl, ho, hb⟩
    have HO := Aside0.mk (Kd.R_lower ho HB.out.size)
    have HB := Aside0.mk (HB.out.trans (hb.mono HB.out.size))
    clear hb ho
    go_wp2_with fail
    go_loopw [0, 17] (fun v0 v17 w' => ∃ k : Nat, k ≤ ds.length ∧ v17 = .int .i64 k ∧ Aside0 (Own w' w.heap.size v0 (nowAt l ds k)) ∧ Aside0 (∀ j, j < k → fitsAt l ds j) ∧ Aside0 (Below w.heap.size w w')) (fun _ v17 _ => ds.length - (intOf v17).toNat)
    case atStart => exact ⟨0, by omega, rfl, HO, ⟨fun j h => absurd h (by omega)⟩, HB⟩
    case round =>
      obtain ⟨k, hk, rfl, HO, HF, HB⟩ := hrel
      by_cases hlt : k < ds.length
      · obtain ⟨ad, A1, c1, A2, c2, rfl, x0, x1, x2, l1, g1, l2, g2⟩ := at_T50 HX0.out k (by omega) (by omega)
        simp only [Int.toNat_natCast] at x0 x1 x2
        replace x0 := pw_cell_below HB.out x0
        replace x1 := pw_cell_below HB.out x1
        replace x2 := pw_cell_below HB.out x2
        have HSN := Aside0.mk (nowAt_succ l ds k hlt)
        have HFT := Aside0.mk (show fitsAt l ds k ↔ alikeAll (runS (nowAt l ds k) (rd_T50 ds k).f1).2 (rd_T50 ds k).f2 from Iff.rfl)
        have hb1 := HFR.out.1 k hk
        have hb2 := HFR.out.2 k hlt
        obtain ⟨M, hM⟩ : ∃ M, nowAt l ds k = M := ⟨_, rfl⟩
        have HM := Aside0.mk hM
        rw [hM] at hb1 HO HSN HFT
        have G1 := Aside0.mk (Kd.C_below g1 HB.out)
        have G2 := Aside0.mk (Kd.C_below g2 HB.out)
        clear hM g1 g2 l1 l2
        obtain ⟨V0, c0, rfl, hc0, hC0⟩ := Kd.R_reads HO.out
        have HC0 := Aside0.mk hC0
        have Hc0 := Aside0.mk hc0
        have HBD := Aside0.mk (show M.length + (rd_T50 ds k).f1.length < 1099511627775 by omega)
        clear hC0 hc0 hb1 hb2
        go_wp2_with fail
        have BX := below_alloc (Below.refl wr.heap.size wr) (.cells #[.int .u64 (rd_T50 ds k).f0, .slice A1 (rd_T50 ds k).f1.length c1, .slice A2 (rd_T50 ds k).f2.length c2] 50 (0, 0))
        have HBX := Aside0.mk (heap_new wr (.cells #[.int .u64 (rd_T50 ds k).f0, .slice A1 (rd_T50 ds k).f1.length c1, .slice A2 (rd_T50 ds k).f2.length c2] 50 (0, 0)))
        refine (Run_calls V0 A1 c0 c1 M (rd_T50 ds k).f1 _ (Kd.C_below HC0.out BX) (Kd.C_below G1.out BX) Hc0.out HBD.out).mono ?_
        rintro e w3 ⟨va, vt, rfl, hva, hvt, hb⟩
        obtain ⟨P, hP⟩ : ∃ P, runS M (rd_T50 ds k).f1 = P := ⟨_, rfl⟩
        rw [hP] at hva hvt HSN HFT
        obtain ⟨T, ct, rfl, -, hT⟩ := Kd.R_reads hvt
        have HT := Aside0.mk (k34c_C hT)
        have BB := Aside0.mk (BX.trans (hb.mono BX.size))
        have HBX := Aside0.mk (blk_below HBX.out hb)
        have HVA := Aside0.mk (Kd.R_lower hva (Nat.le_trans HB.out.size BX.size))
        clear hb hva hvt hT hP BX x0 x1 x2
        have x2 := (blk_cell HBX.out 2).trans rfl
        go_wp2_with fail
        refine (EqualFunc_calls T A2 ct c2 P.2 (rd_T50 ds k).f2 _ HT.out (Kd.C_below G2.out BB.out)).mono ?_
        rintro e w4 ⟨⟨b, rfl, hbb⟩, hb⟩
        have HBB := Aside0.mk hbb
        have HVA2 := Aside0.mk (Kd.R_below HVA.out hb)
        have HO2 := Aside0.mk (Kd.R_below (Kd.R_below HO.out BB.out) hb)
        have HB2 := Aside0.mk ((HB.out.trans (BB.out.mono HB.out.size)).trans (hb.mono (Nat.le_trans HB.out.size BB.out.size)))
        clear hb hbb x2
        cases b with
        | false =>
          go_wp2_with fail
          go_ret2
          exact ⟨_, M, k, rfl, HO2.out, .inr ⟨HK.out, hk, HF.out, fun _ h => absurd (HBB.out.2 (HFT.out.1 h)) (by decide), HM.out.symm⟩, HB2.out⟩
        | true =>
          go_wp2_with fail
          go_roundw
          case rel => exact ⟨k + 1, by omega, by go_num, ⟨by rw [HSN.out]; exact HVA2.out⟩, ⟨fun j hj => by
            rcases Nat.lt_or_ge j k with h1 | h1
            · exact HF.out j h1
            · obtain rfl : j = k := by omega
              exact HFT.out.2 (HBB.out.1 (by trivial))⟩, HB2⟩
          case measure => simp [intOf]; omega
      · obtain rfl : k = ds.length := by omega
        clear hlt
        go_wp2_with fail
        go_ret2
        exact ⟨_, _, ds.length, rfl, HO.out, .inr ⟨HK.out, Nat.le_refl _, HF.out, fun h => absurd h (by omega), rfl⟩, HB.out⟩
end Go.Proofs.Ytcnmefocbjilbaa.G
