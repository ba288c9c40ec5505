/- Part of the seat's claims: lockkeeperlaw30.ModelRuns answers true for every two rows of cells and every deeds (no condition). -/
import Derived.Test.YtcnmefocbjilbaaM5
import Derived.Test.YtcnmefocbjilbaaM1
import Derived.Test.YtcnmefocbjilbaaM2
import Derived.Test.YtcnmefocbjilbaaM3
import Derived.Test.YtcnmefocbjilbaaRows
import Derived.WalkKit
import Derived.ProofKit
import Derived.OpenShut
import Derived.ShutString
import Derived.ChangeOld
import Derived.Below
import Derived.SizedLaws
set_option linter.unusedVariables false
set_option linter.unusedSimpArgs false
namespace Go.Proofs.Ytcnmefocbjilbaa.G
open Go.RowKit Go.Proofs.YtcnmefocbjilbaaW.PrintWords Go.Proofs.YtcnmefocbjilbaaW.PrintLast Go.Proofs.YtcnmefocbjilbaaW.PrintMore
open Go.Proofs.YtcnmefocbjilbaaFlat
set_option maxHeartbeats 4000000
set_option maxRecDepth 20000

theorem refSame_is (A B : Option Addr) (c d : Nat) (r s : S34) (v : Bool) (w : World) (HX : Kd.C k40 w A r.f6.length r.f6) (HY : Kd.C k40 w B s.f6.length s.f6) (h : v = true ↔ alike r s) :
    Calls Try.prog 14 #[aggR r (.slice A r.f6.length c), aggR s (.slice B s.f6.length d)] w (fun e w' => e = .returned (.bool v) ∧ Below w.heap.size w w') := by
  refine (refSame_calls A B c d r s w HX HY).mono ?_
  rintro e w1 ⟨⟨b, rfl, hb⟩, hB⟩
  refine ⟨?_, hB⟩
  have : b = v := by
    cases b <;> cases v <;> simp_all
  rw [this]
theorem modelSame_is (A B : Option Addr) (c d : Nat) (r s : S34) (v : Bool) (w : World) (HX : Kd.C k40 w A r.f6.length r.f6) (HY : Kd.C k40 w B s.f6.length s.f6) (h : v = true ↔ alike r s) :
    Calls Try.prog 15 #[aggR r (.slice A r.f6.length c), aggR s (.slice B s.f6.length d)] w (fun e w' => e = .returned (.bool v) ∧ Below w.heap.size w w') := by
  refine (modelSame_calls A B c d r s w HX HY).mono ?_
  rintro e w1 ⟨⟨b, rfl, hb⟩, hB⟩
  refine ⟨?_, hB⟩
  have : b = v := by
    cases b <;> cases v <;> simp_all
  rw [this]
theorem alike_bool (r s : S34) : ∃ v : Bool, v = true ↔ alike r s := by
  by_cases h : alike r s
  · exact ⟨true, by simp [h]⟩
  · exact ⟨false, by simp [h]⟩
/-- Where the comparison of two rows stands: so far f. -/
def SoFar (xs ys : List S34) (k : Nat) (f : Bool) : Prop := (f = true → xs.length = ys.length ∧ ∀ i : Nat, i < k → alike (rd_T34 xs i) (rd_T34 ys i)) ∧ (f = false → ¬ alikeAll xs ys)
theorem soFar_step {xs ys : List S34} {k : Nat} {v : Bool} (h : SoFar xs ys k true) (hk : k < xs.length) (hv : v = true ↔ alike (rd_T34 xs k) (rd_T34 ys k)) : SoFar xs ys (k + 1) v := by
  refine ⟨fun e => ⟨(h.1 rfl).1, fun i hi => ?_⟩, fun e ha => ?_⟩
  · rcases Nat.lt_or_ge i k with h1 | h1
    · exact (h.1 rfl).2 i h1
    · obtain rfl : i = k := by omega
      exact hv.1 e
  · have := hv.2 (ha.2 k hk)
    rw [e] at this
    cases this
theorem soFar_end {xs ys : List S34} {k : Nat} (h : SoFar xs ys k true) (hk : xs.length ≤ k) : alikeAll xs ys := ⟨(h.1 rfl).1, fun i hi => (h.1 rfl).2 i (by omega)⟩

theorem refSerial_calls (A B : Option Addr) (c d : Nat) (l : List S40) (ds : List S50) (w : World) (HR : Kd.C k40 w A l.length l) (HX : Kd.C k50 w B ds.length ds) (hf : Fair l ds) (hl : l.length < 549755813888) :
    Calls Try.prog 21 #[.slice A l.length c, .slice B ds.length d] w (SerialPost l ds w) := by
  have HR0 := Aside0.mk HR
  have HX0 := Aside0.mk HX
  have HFR := Aside0.mk hf
  have hmx := Kd.C_max HX
  clear HR HX hf
  cases hr : rightB l with
  | false =>
    have HK := Aside0.mk hr
    clear hr
    go_enter Try.func21, Try.ntmps21
    go_wp2_with fail
    refine (ref10_Right_calls A c l _ HR0.out).mono ?_
    rintro e w1 ⟨he, hb⟩
    rw [HK.out] at he
    obtain rfl := he
    have HB := Aside0.mk hb
    clear hb
    go_wp2_with fail
    go_ret2
    exact ⟨_, [], 0, rfl, Kd.R_nil k40 40 _ _ _, .inl ⟨HK.out, rfl, rfl⟩, HB.out⟩
  | true =>
    have HK := Aside0.mk hr
    clear hr
    go_enter Try.func21, Try.ntmps21
    go_wp2_with fail
    refine (ref10_Right_calls A c l _ HR0.out).mono ?_
    rintro e w1 ⟨he, hb⟩
    rw [HK.out] at he
    obtain rfl := he
    have HB := Aside0.mk hb
    clear hb
    go_wp2_with fail
    refine (Copy_calls A c l _ (Kd.C_below HR0.out HB.out) (by omega)).mono ?_
    rintro e w2 ⟨v1, rfl, ho, hb⟩
    have HO := Aside0.mk (Kd.R_lower ho HB.out.size)
    have HB := Aside0.mk (HB.out.trans (hb.mono HB.out.size))
    clear hb ho
    go_wp2_with fail
    go_loopw [6, 7] (fun v6 v7 w' => ∃ k : Nat, k ≤ ds.length ∧ v7 = .int .i64 k ∧ Aside0 (Own w' w.heap.size v6 (nowAt l ds k)) ∧ Aside0 (∀ j, j < k → fitsAt l ds j) ∧ Aside0 (Below w.heap.size w w')) (fun _ v7 _ => ds.length - (intOf v7).toNat)
    case atStart => exact ⟨0, by omega, rfl, HO, ⟨fun j h => absurd h (by omega)⟩, HB⟩
    case round =>
      obtain ⟨k, hk, rfl, HO, HF, HB⟩ := hrel
      by_cases hlt : k < ds.length
      · obtain ⟨ad, A1, c1, A2, c2, rfl, x0, x1, x2, l1, g1, l2, g2⟩ := at_T50 HX0.out k (by omega) (by omega)
        simp only [Int.toNat_natCast] at x0 x1 x2
        have X1 := Aside0.mk x1
        have X2 := Aside0.mk x2
        clear x0 x1 x2
        have HSN := Aside0.mk (nowAt_succ l ds k hlt)
        have HFT := Aside0.mk (show fitsAt l ds k ↔ alikeAll (runS (nowAt l ds k) (rd_T50 ds k).f1).2 (rd_T50 ds k).f2 from Iff.rfl)
        have hb1 := HFR.out.1 k hk
        have hb2 := HFR.out.2 k hlt
        obtain ⟨M, hM⟩ : ∃ M, nowAt l ds k = M := ⟨_, rfl⟩
        have HM := Aside0.mk hM
        rw [hM] at hb1 HO HSN HFT
        have G1 := Aside0.mk (Kd.C_below g1 HB.out)
        have G2 := Aside0.mk g2
        have hm2 := Kd.C_max g2
        clear hM g1 g2 l1 l2
        obtain ⟨V0, c0, rfl, hc0, hC0⟩ := Kd.R_reads HO.out
        have HC0 := Aside0.mk hC0
        have HBD := Aside0.mk (show M.length + (rd_T50 ds k).f1.length < 1099511627775 by omega)
        clear hC0 hc0 hb1 hb2
        have x1 := pw_cell_below HB.out X1.out
        go_wp2_with fail
        refine (refRun_calls V0 A1 c0 c1 M (rd_T50 ds k).f1 _ HC0.out G1.out HBD.out).mono ?_
        rintro e w3 ⟨va, vt, rfl, hva, hvt, hb⟩
        obtain ⟨P, hP⟩ : ∃ P, runS M (rd_T50 ds k).f1 = P := ⟨_, rfl⟩
        rw [hP] at hva hvt HSN HFT
        obtain ⟨T, ct, rfl, -, hT⟩ := Kd.R_reads hvt
        have HT := Aside0.mk (k34c_C hT)
        have hm3 := Kd.C_max hT
        have HVA := Aside0.mk (Kd.R_lower hva HB.out.size)
        have HO := Aside0.mk (Kd.R_below HO.out hb)
        have HB := Aside0.mk (HB.out.trans (hb.mono HB.out.size))
        clear hb hva hvt hT hP x1
        have x2 := pw_cell_below HB.out X2.out
        obtain ⟨f0, hf0⟩ : ∃ f0 : Bool, decide (P.2.length = (rd_T50 ds k).f2.length) = f0 := ⟨_, rfl⟩
        have HS0 := Aside0.mk (show SoFar P.2 (rd_T50 ds k).f2 0 f0 from ⟨fun e => ⟨by rw [e] at hf0; exact of_decide_eq_true hf0, fun i h => absurd h (by omega)⟩, fun e h => by rw [e] at hf0; exact of_decide_eq_false hf0 h.1⟩)
        have hf1 : (P.2.length == (rd_T50 ds k).f2.length) = f0 := by rw [← hf0]; exact Bool.beq_eq_decide_eq _ _
        have hf2 : ((P.2.length : Int) == ((rd_T50 ds k).f2.length : Int)) = f0 := by rw [← hf1, Bool.eq_iff_iff, beq_iff_eq, beq_iff_eq]; omega
        clear hf0
        go_wp2_with fail
        clear hf1 hf2 x2
        go_loopw [10, 11] (fun v10 v11 w' => ∃ (j : Nat) (f : Bool), j ≤ P.2.length ∧ v10 = .bool f ∧ v11 = .int .i64 j ∧ Aside0 (SoFar P.2 (rd_T50 ds k).f2 j f) ∧ Aside0 (Below w3.heap.size w3 w')) (fun _ v11 _ => P.2.length - (intOf v11).toNat)
        case atStart => exact ⟨0, f0, by omega, rfl, rfl, HS0, ⟨Below.refl _ _⟩⟩
        case round =>
          obtain ⟨j, f, hj, rfl, rfl, HS, HBJ⟩ := hrel
          cases f with
          | false =>
            have HO2 := Aside0.mk (Kd.R_below HO.out HBJ.out)
            have HB2 := Aside0.mk (HB.out.trans (HBJ.out.mono HB.out.size))
            go_wp2_with fail
            go_ret2
            exact ⟨_, M, k, rfl, HO2.out, .inr ⟨HK.out, hk, HF.out, fun _ h => HS.out.2 rfl (HFT.out.1 h), HM.out.symm⟩, HB2.out⟩
          | true =>
            by_cases hjl : j < P.2.length
            · have hjy : j < (rd_T50 ds k).f2.length := by have := (HS.out.1 rfl).1; omega
              obtain ⟨td, A6, c6, rfl, y0, y1, y2, y3, y4, y5, y6, yl, yg⟩ := at_T34 HT.out j (by omega) (by omega)
              obtain ⟨rd, B6, d6, rfl, z0, z1, z2, z3, z4, z5, z6, zl, zg⟩ := at_T34 G2.out j (by omega) (by omega)
              simp only [Int.toNat_natCast] at y0 y1 y2 y3 y4 y5 y6 z0 z1 z2 z3 z4 z5 z6
              have Y0 := Aside0.mk y0
              have Y1 := Aside0.mk y1
              have Y2 := Aside0.mk y2
              have Y3 := Aside0.mk y3
              have Y4 := Aside0.mk y4
              have Y5 := Aside0.mk y5
              have Y6 := Aside0.mk y6
              have Z0 := Aside0.mk (pw_cell_below HB.out z0)
              have Z1 := Aside0.mk (pw_cell_below HB.out z1)
              have Z2 := Aside0.mk (pw_cell_below HB.out z2)
              have Z3 := Aside0.mk (pw_cell_below HB.out z3)
              have Z4 := Aside0.mk (pw_cell_below HB.out z4)
              have Z5 := Aside0.mk (pw_cell_below HB.out z5)
              have Z6 := Aside0.mk (pw_cell_below HB.out z6)
              have X3 := Aside0.mk (pw_cell_below HB.out X2.out)
              have YG := Aside0.mk yg
              have ZG := Aside0.mk (Kd.C_below zg HB.out)
              obtain ⟨v, hv⟩ := alike_bool (rd_T34 P.2 j) (rd_T34 (rd_T50 ds k).f2 j)
              have HV := Aside0.mk hv
              have HNX := Aside0.mk (soFar_step HS.out hjl hv)
              clear y0 y1 y2 y3 y4 y5 y6 z0 z1 z2 z3 z4 z5 z6 yl yg zl zg hv
              have j1 : (j : Int) < (P.2.length : Int) := by omega
              have j2 : (j : Int) < ((rd_T50 ds k).f2.length : Int) := by omega
              have j3 : decide ((j : Int) < (P.2.length : Int)) = true := decide_eq_true j1
              go_wp2_with fail
              refine wp_region_flat (fun w' => Below w3.heap.size w3 w') (by kernel_rfl) (by kernel_rfl) (below_drew HBJ.out) ?_
              repeat
                (apply Flat.cons
                 · intro w' hS
                   have S2 := Aside0.mk hS
                   have y0 := pw_cell_below hS Y0.out
                   have y1 := pw_cell_below hS Y1.out
                   have y2 := pw_cell_below hS Y2.out
                   have y3 := pw_cell_below hS Y3.out
                   have y4 := pw_cell_below hS Y4.out
                   have y5 := pw_cell_below hS Y5.out
                   have y6 := pw_cell_below hS Y6.out
                   have z0 := pw_cell_below hS Z0.out
                   have z1 := pw_cell_below hS Z1.out
                   have z2 := pw_cell_below hS Z2.out
                   have z3 := pw_cell_below hS Z3.out
                   have z4 := pw_cell_below hS Z4.out
                   have z5 := pw_cell_below hS Z5.out
                   have z6 := pw_cell_below hS Z6.out
                   have x2 := pw_cell_below hS X3.out
                   clear hS
                   go_wp2_with (go_at_call 14; refine (refSame_is A6 B6 c6 d6 (rd_T34 P.2 j) (rd_T34 (rd_T50 ds k).f2 j) v _ (Kd.C_below YG.out S2.out) (Kd.C_below ZG.out S2.out) HV.out).mono ?_; rintro e w' ⟨rfl, hb⟩)
                   first
                   | exact flat_end rfl S2.out
                   | exact flat_end rfl (S2.out.trans (hb.mono S2.out.size))
                 · exact rfl)
              refine Flat.nil fun W2 hS => ?_
              have HB3 := Aside0.mk hS
              clear hS
              go_wp2_with fail
              go_roundw
              case rel => exact ⟨j + 1, v, by omega, rfl, by go_num, HNX, HB3⟩
              case measure => simp [intOf]; omega
            · obtain rfl : j = P.2.length := by omega
              have HAL := Aside0.mk (soFar_end HS.out (Nat.le_refl _))
              have HVA2 := Aside0.mk (Kd.R_below HVA.out HBJ.out)
              have HB2 := Aside0.mk (HB.out.trans (HBJ.out.mono HB.out.size))
              clear hjl
              go_wp2_with fail
              go_roundw
              case rel => exact ⟨k + 1, by omega, by go_num, ⟨by rw [HSN.out]; exact HVA2.out⟩, ⟨fun q hq => by
                rcases Nat.lt_or_ge q k with h1 | h1
                · exact HF.out q h1
                · obtain rfl : q = k := by omega
                  exact HFT.out.2 HAL.out⟩, HB2⟩
              case measure => simp [intOf]; omega
      · obtain rfl : k = ds.length := by omega
        clear hlt
        go_wp2_with fail
        go_ret2
        exact ⟨_, _, ds.length, rfl, HO.out, .inr ⟨HK.out, Nat.le_refl _, HF.out, fun h => absurd h (by omega), rfl⟩, HB.out⟩
end Go.Proofs.Ytcnmefocbjilbaa.G
namespace Go.Proofs.Ytcnmefocbjilbaa.G
open Go.RowKit
set_option maxHeartbeats 1000000

/-! ### two maps gone through side by side: the plain law -/
def mergeD : List S40 → List S40 → List ByteArray
  | [], [] => []
  | a :: us, [] => a.f0 :: mergeD us []
  | [], b :: bs => b.f0 :: mergeD [] bs
  | a :: us, b :: bs =>
    if lessC a b = true then a.f0 :: mergeD us (b :: bs)
    else if lessC b a = true then b.f0 :: mergeD (a :: us) bs
    else if (a.f1.toList == b.f1.toList) = true then mergeD us bs
    else a.f0 :: mergeD us bs
termination_by a b => a.length + b.length
theorem findO_cons (a : S40) (us : List S40) (p : ByteArray) : findO (a :: us) p = if a.f0 = p then some a.f1 else findO us p := by
  unfold findO
  rw [List.find?_cons]
  by_cases h : a.f0 = p
  · rw [if_pos h, key_iff.2 h]
    rfl
  · rw [if_neg h]
    cases hk : isKey p a with
    | true => exact absurd (key_iff.1 hk) h
    | false => rfl
theorem findO_nil (p : ByteArray) : findO [] p = none := rfl
theorem findO_below {a : S40} {us : List S40} (h : ∀ x ∈ us, Lt a x) : findO us a.f0 = none := by
  unfold findO
  rw [Option.map_eq_none_iff, List.find?_eq_none]
  intro x hx hk
  exact lt_key (h x hx) (key_iff.1 hk).symm
theorem findO_some {l : List S40} {p v : ByteArray} (h : findO l p = some v) : ∃ c ∈ l, c.f0 = p := by
  unfold findO at h
  rw [Option.map_eq_some_iff] at h
  obtain ⟨c, hc, _⟩ := h
  exact ⟨c, List.mem_of_find?_eq_some hc, key_iff.1 (List.find?_some hc)⟩
theorem mem_mergeD (l m : List S40) (hl : l.Pairwise Lt) (hm : m.Pairwise Lt) (p : ByteArray) : p ∈ mergeD l m ↔ findO l p ≠ findO m p := by
  induction l, m using mergeD.induct with
  | case1 => simp [mergeD]
  | case2 a us ih =>
    rw [List.pairwise_cons] at hl
    rw [mergeD, List.mem_cons, ih hl.2 hm, findO_cons, findO_nil]
    by_cases h : a.f0 = p
    · simp [h]
    · rw [if_neg h]
      exact ⟨fun h1 => h1.resolve_left fun e => h e.symm, .inr⟩
  | case3 b bs ih =>
    rw [List.pairwise_cons] at hm
    rw [mergeD, List.mem_cons, ih hl hm.2, findO_cons, findO_nil]
    by_cases h : b.f0 = p
    · simp [h]
    · rw [if_neg h]
      exact ⟨fun h1 => h1.resolve_left fun e => h e.symm, .inr⟩
  | case4 a us b bs hab ih =>
    have hl' := hl
    rw [List.pairwise_cons] at hl'
    have hm' := hm
    rw [List.pairwise_cons] at hm'
    rw [mergeD, if_pos hab, List.mem_cons, ih hl'.2 hm, findO_cons a us p]
    by_cases h : a.f0 = p
    · subst h
      rw [if_pos rfl, findO_below (us := b :: bs) (fun x hx => by
        rcases List.mem_cons.1 hx with rfl | hx
        · exact hab
        · exact lt_trans' hab (hm'.1 x hx))]
      simp
    · rw [if_neg h]
      exact ⟨fun h1 => h1.resolve_left fun e => h e.symm, .inr⟩
  | case5 a us b bs hab hba ih =>
    have hl' := hl
    rw [List.pairwise_cons] at hl'
    have hm' := hm
    rw [List.pairwise_cons] at hm'
    rw [mergeD, if_neg hab, if_pos hba, List.mem_cons, ih hl hm'.2, findO_cons b bs p]
    by_cases h : b.f0 = p
    · subst h
      rw [if_pos rfl, findO_below (us := a :: us) (fun x hx => by
        rcases List.mem_cons.1 hx with rfl | hx
        · exact hba
        · exact lt_trans' hba (hl'.1 x hx))]
      simp
    · rw [if_neg h]
      exact ⟨fun h1 => h1.resolve_left fun e => h e.symm, .inr⟩
  | case6 a us b bs hab hba hv ih =>
    rw [List.pairwise_cons] at hl hm
    have hk : a.f0 = b.f0 := by
      apply tl_inj
      unfold lessC at hab hba
      rw [Bool.not_eq_true] at hab hba
      exact bl_tri hab hba
    rw [mergeD, if_neg hab, if_neg hba, if_pos hv, ih hl.2 hm.2, findO_cons a, findO_cons b, ← hk]
    by_cases h : a.f0 = p
    · subst h
      rw [if_pos rfl, if_pos rfl, findO_below hl.1, hk, findO_below hm.1, tl_inj (beq_iff_eq.1 hv)]
      simp
    · rw [if_neg h, if_neg h]
  | case7 a us b bs hab hba hv ih =>
    rw [List.pairwise_cons] at hl hm
    have hk : a.f0 = b.f0 := by
      apply tl_inj
      unfold lessC at hab hba
      rw [Bool.not_eq_true] at hab hba
      exact bl_tri hab hba
    rw [mergeD, if_neg hab, if_neg hba, if_neg hv, List.mem_cons, ih hl.2 hm.2, findO_cons a, findO_cons b, ← hk]
    by_cases h : a.f0 = p
    · subst h
      rw [if_pos rfl, if_pos rfl]
      have : ¬ a.f1 = b.f1 := fun e => hv (by rw [e]; exact beq_self_eq_true _)
      simp [this]
    · rw [if_neg h, if_neg h]
      exact ⟨fun h1 => h1.resolve_left fun e => h e.symm, .inr⟩
abbrev LtB (a b : ByteArray) : Prop := a.data.toList < b.data.toList
theorem lt_bytes {a b : S40} (h : Lt a b) : LtB a.f0 b.f0 := by
  unfold Lt lessC at h
  rw [bl_eq, decide_eq_true_eq, Lib.toList_data, Lib.toList_data] at h
  exact h
theorem mergeD_from {l m : List S40} (hl : l.Pairwise Lt) (hm : m.Pairwise Lt) {p : ByteArray} (h : p ∈ mergeD l m) : ∃ c, (c ∈ l ∨ c ∈ m) ∧ c.f0 = p := by
  rw [mem_mergeD l m hl hm] at h
  cases h1 : findO l p with
  | some v =>
    obtain ⟨c, hc, e⟩ := findO_some h1
    exact ⟨c, .inl hc, e⟩
  | none =>
    cases h2 : findO m p with
    | some v =>
      obtain ⟨c, hc, e⟩ := findO_some h2
      exact ⟨c, .inr hc, e⟩
    | none => exact absurd (h1.trans h2.symm) h
theorem mergeD_sorted (l m : List S40) (hl : l.Pairwise Lt) (hm : m.Pairwise Lt) : (mergeD l m).Pairwise LtB := by
  induction l, m using mergeD.induct with
  | case1 => simp [mergeD]
  | case2 a us ih =>
    rw [List.pairwise_cons] at hl
    rw [mergeD, List.pairwise_cons]
    refine ⟨fun p hp => ?_, ih hl.2 hm⟩
    obtain ⟨c, h1 | h1, rfl⟩ := mergeD_from hl.2 hm hp
    · exact lt_bytes (hl.1 c h1)
    · cases h1
  | case3 b bs ih =>
    rw [List.pairwise_cons] at hm
    rw [mergeD, List.pairwise_cons]
    refine ⟨fun p hp => ?_, ih hl hm.2⟩
    obtain ⟨c, h1 | h1, rfl⟩ := mergeD_from hl hm.2 hp
    · cases h1
    · exact lt_bytes (hm.1 c h1)
  | case4 a us b bs hab ih =>
    have hl' := hl
    rw [List.pairwise_cons] at hl'
    have hm' := hm
    rw [List.pairwise_cons] at hm'
    rw [mergeD, if_pos hab, List.pairwise_cons]
    refine ⟨fun p hp => ?_, ih hl'.2 hm⟩
    obtain ⟨c, h1 | h1, rfl⟩ := mergeD_from hl'.2 hm hp
    · exact lt_bytes (hl'.1 c h1)
    · rcases List.mem_cons.1 h1 with rfl | h1
      · exact lt_bytes hab
      · exact lt_bytes (lt_trans' hab (hm'.1 c h1))
  | case5 a us b bs hab hba ih =>
    have hl' := hl
    rw [List.pairwise_cons] at hl'
    have hm' := hm
    rw [List.pairwise_cons] at hm'
    rw [mergeD, if_neg hab, if_pos hba, List.pairwise_cons]
    refine ⟨fun p hp => ?_, ih hl hm'.2⟩
    obtain ⟨c, h1 | h1, rfl⟩ := mergeD_from hl hm'.2 hp
    · rcases List.mem_cons.1 h1 with rfl | h1
      · exact lt_bytes hba
      · exact lt_bytes (lt_trans' hba (hl'.1 c h1))
    · exact lt_bytes (hm'.1 c h1)
  | case6 a us b bs hab hba hv ih =>
    rw [List.pairwise_cons] at hl hm
    rw [mergeD, if_neg hab, if_neg hba, if_pos hv]
    exact ih hl.2 hm.2
  | case7 a us b bs hab hba hv ih =>
    rw [List.pairwise_cons] at hl hm
    have hk : a.f0 = b.f0 := by
      apply tl_inj
      unfold lessC at hab hba
      rw [Bool.not_eq_true] at hab hba
      exact bl_tri hab hba
    rw [mergeD, if_neg hab, if_neg hba, if_neg hv, List.pairwise_cons]
    refine ⟨fun p hp => ?_, ih hl.2 hm.2⟩
    obtain ⟨c, h1 | h1, rfl⟩ := mergeD_from hl.2 hm.2 hp
    · exact lt_bytes (hl.1 c h1)
    · rw [hk]
      exact lt_bytes (hm.1 c h1)

/-! #### compact of what is sorted -/
theorem compact_mem (ss : List (List UInt8)) (x : List UInt8) : x ∈ Lib.compact ss ↔ x ∈ ss := by
  unfold Lib.compact Lib.compactUpTo
  rw [List.mem_map]
  constructor
  · rintro ⟨j, hj, rfl⟩
    have h := (List.mem_filter.1 hj).1
    rw [List.mem_range] at h
    have h2 : j < ss.toArray.size := by simpa using h
    rw [getElem!_pos ss.toArray j h2]
    simp
  · intro hx
    have hex : ∃ j : Nat, j < ss.length ∧ ss.toArray[j]! = x := by
      obtain ⟨j, hj, rfl⟩ := List.getElem_of_mem hx
      exact ⟨j, hj, by rw [getElem!_pos ss.toArray j (by simpa using hj)]; simp⟩
    clear hx
    have hmin : ∀ n : Nat, ∀ j, j ≤ n → j < ss.length → ss.toArray[j]! = x → ∃ i, i < ss.length ∧ ss.toArray[i]! = x ∧ Lib.keeps ss.toArray i = true := by
      intro n
      induction n with
      | zero =>
        intro j hj h1 h2
        obtain rfl : j = 0 := by omega
        exact ⟨0, h1, h2, by simp [Lib.keeps]⟩
      | succ n ih =>
        intro j hj h1 h2
        by_cases h3 : j = 0
        · subst h3; exact ⟨0, h1, h2, by simp [Lib.keeps]⟩
        by_cases h4 : ss.toArray[j - 1]! = x
        · exact ih (j - 1) (by omega) (by omega) h4
        · exact ⟨j, h1, h2, Lib.keeps_pos (by rw [h2]; exact fun e => h4 e.symm)⟩
    obtain ⟨j, h1, h2⟩ := hex
    obtain ⟨i, h3, h4, h5⟩ := hmin j j (Nat.le_refl _) h1 h2
    exact ⟨i, List.mem_filter.2 ⟨List.mem_range.2 h3, h5⟩, h4⟩
theorem compact_sorted (ss : List (List UInt8)) (h : ss.Pairwise (fun x y => x ≤ y)) : (Lib.compact ss).Pairwise (fun x y => x < y) := by
  unfold Lib.compact Lib.compactUpTo
  rw [List.pairwise_map]
  have hr : ((List.range ss.length).filter (Lib.keeps ss.toArray)).Pairwise (fun i j => i < j) := List.pairwise_lt_range.filter _
  refine hr.imp_of_mem ?_
  intro i j hi hj hij
  have hi1 := List.mem_range.1 (List.mem_filter.1 hi).1
  have hj1 := List.mem_range.1 (List.mem_filter.1 hj).1
  have hj2 := (List.mem_filter.1 hj).2
  have hne : ss.toArray[j]! ≠ ss.toArray[j - 1]! := by
    unfold Lib.keeps at hj2
    rw [decide_eq_true_eq] at hj2
    exact hj2.resolve_left (by omega)
  rw [getElem!_pos ss.toArray j (by simpa using hj1), getElem!_pos ss.toArray (j - 1) (by simp; omega)] at hne
  rw [getElem!_pos ss.toArray i (by simpa using hi1), getElem!_pos ss.toArray j (by simpa using hj1)]
  simp only [List.getElem_toArray] at hne ⊢
  rw [List.pairwise_iff_getElem] at h
  have h1 : ss[j - 1] ≤ ss[j] := h (j - 1) j (by omega) hj1 (by omega)
  have h2 : ss[i] ≤ ss[j - 1] := by
    rcases Nat.lt_or_ge i (j - 1) with h3 | h3
    · exact h i (j - 1) hi1 (by omega) h3
    · have e : i = j - 1 := by omega
      subst e
      exact List.le_refl _
  have h3 : ss[j - 1] < ss[j] := by
    by_cases h4 : ss[j - 1] < ss[j]
    · exact h4
    · exact absurd (List.le_antisymm (List.not_lt.1 h4) h1) hne
  exact List.lt_of_le_of_lt h2 h3
theorem strict_ext : ∀ {a b : List (List UInt8)}, a.Pairwise (fun x y => x < y) → b.Pairwise (fun x y => x < y) → (∀ x, x ∈ a ↔ x ∈ b) → a = b
  | [], [], _, _, _ => rfl
  | [], y :: ys, _, _, h => absurd ((h y).2 List.mem_cons_self) (by simp)
  | x :: xs, [], _, _, h => absurd ((h x).1 List.mem_cons_self) (by simp)
  | x :: xs, y :: ys, ha, hb, h => by
    rw [List.pairwise_cons] at ha hb
    have hxy : x = y := by
      rcases List.mem_cons.1 ((h x).1 List.mem_cons_self) with e | h1
      · exact e
      · rcases List.mem_cons.1 ((h y).2 List.mem_cons_self) with e | h2
        · exact e.symm
        · exact absurd (List.lt_trans (hb.1 x h1) (ha.1 y h2)) (List.lt_irrefl y)
    subst hxy
    rw [strict_ext ha.2 hb.2 fun z => ⟨fun hz => ?_, fun hz => ?_⟩]
    · rcases List.mem_cons.1 ((h z).1 (List.mem_cons_of_mem _ hz)) with e | h1
      · subst e; exact absurd (ha.1 z hz) (List.lt_irrefl z)
      · exact h1
    · rcases List.mem_cons.1 ((h z).2 (List.mem_cons_of_mem _ hz)) with e | h1
      · subst e; exact absurd (hb.1 z hz) (List.lt_irrefl z)
      · exact h1
theorem sorted_pairwise (ss : List (List UInt8)) : (sorted ss).Pairwise (fun x y => x ≤ y) := by
  unfold sorted
  have h := List.pairwise_mergeSort (le := fun x y : List UInt8 => decide (x ≤ y)) (fun a b c h1 h2 => by
    rw [decide_eq_true_eq] at *
    exact List.le_trans h1 h2) (fun a b => by
    rcases List.le_total a b with h | h
    · simp [h]
    · simp [h]) ss
  exact h.imp fun h => by simpa using h
theorem data_inj {a b : ByteArray} (h : a.data.toList = b.data.toList) : a = b := tl_inj (by rw [Lib.toList_data, Lib.toList_data]; exact h)
/-- Both ways of telling which keys are not the same. -/
theorem diff_law (l m : List S40) (hl : rightB l = true) (hm : rightB m = true) : (mergeD l m).map (·.data.toList) = diffS l m := by
  have sl := ((right_iff l).1 hl).2
  have sm := ((right_iff m).1 hm).2
  unfold diffS
  rw [if_pos ⟨hl, hm⟩]
  refine strict_ext ?_ (compact_sorted _ (sorted_pairwise _)) fun x => ?_
  · rw [List.pairwise_map]
    exact mergeD_sorted l m sl sm
  · rw [compact_mem]
    unfold sorted
    rw [List.mem_mergeSort, List.mem_map, List.mem_map]
    have key : ∀ p, p ∈ mergeD l m ↔ p ∈ diffK l m := by
      intro p
      rw [mem_mergeD l m sl sm]
      unfold diffK
      rw [List.mem_map]
      have e1 : findV l p = findO l p := by unfold findV; rw [if_pos hl]
      have e2 : findV m p = findO m p := by unfold findV; rw [if_pos hm]
      constructor
      · intro h
        have hc : ∃ c, (c ∈ l ∨ c ∈ m) ∧ c.f0 = p := mergeD_from sl sm ((mem_mergeD l m sl sm p).2 h)
        obtain ⟨c, hc, rfl⟩ := hc
        refine ⟨c, List.mem_filter.2 ⟨List.mem_append.2 hc, ?_⟩, rfl⟩
        unfold unlike
        rw [e1, e2, decide_eq_true_eq]
        exact h
      · rintro ⟨c, hc, rfl⟩
        have h := (List.mem_filter.1 hc).2
        unfold unlike at h
        rw [e1, e2, decide_eq_true_eq] at h
        exact h
    constructor
    · rintro ⟨p, hp, rfl⟩
      exact ⟨p, (key p).1 hp, rfl⟩
    · rintro ⟨p, hp, rfl⟩
      exact ⟨p, (key p).2 hp, rfl⟩
end Go.Proofs.Ytcnmefocbjilbaa.G
namespace Go.Proofs.Ytcnmefocbjilbaa.G
open Go.RowKit Go.Proofs.YtcnmefocbjilbaaW.PrintWords Go.Proofs.YtcnmefocbjilbaaW.PrintLast Go.Proofs.YtcnmefocbjilbaaW.PrintMore
open Go.Proofs.YtcnmefocbjilbaaFlat
set_option maxHeartbeats 4000000
set_option maxRecDepth 20000

theorem drop_cons (l : List S40) (i : Nat) (h : i < l.length) : l.drop i = rd_T40 l i :: l.drop (i + 1) := by
  rw [List.drop_eq_getElem_cons h]
  have e : rd_T40 l i = l[i] := rd40 l i h
  rw [e]
theorem mD_end (l m : List S40) (i : Nat) (h : i < l.length) : mergeD (l.drop i) (m.drop m.length) = (rd_T40 l i).f0 :: mergeD (l.drop (i + 1)) (m.drop m.length) := by
  rw [drop_cons l i h, List.drop_length, mergeD]
theorem mD_end2 (l m : List S40) (k : Nat) (h : k < m.length) : mergeD (l.drop l.length) (m.drop k) = (rd_T40 m k).f0 :: mergeD (l.drop l.length) (m.drop (k + 1)) := by
  rw [drop_cons m k h, List.drop_length, mergeD]
theorem mD_lt (l m : List S40) (i k : Nat) (h : i < l.length) (g : k < m.length) (hl : Op.bytesLess (rd_T40 l i).f0.toList (rd_T40 m k).f0.toList = true) : mergeD (l.drop i) (m.drop k) = (rd_T40 l i).f0 :: mergeD (l.drop (i + 1)) (m.drop k) := by
  rw [drop_cons l i h, drop_cons m k g, mergeD, if_pos (show lessC _ _ = true from hl)]
theorem mD_gt (l m : List S40) (i k : Nat) (h : i < l.length) (g : k < m.length) (hl : Op.bytesLess (rd_T40 l i).f0.toList (rd_T40 m k).f0.toList = false) (hg : Op.bytesLess (rd_T40 m k).f0.toList (rd_T40 l i).f0.toList = true) : mergeD (l.drop i) (m.drop k) = (rd_T40 m k).f0 :: mergeD (l.drop i) (m.drop (k + 1)) := by
  rw [drop_cons l i h, drop_cons m k g, mergeD, if_neg (by unfold lessC; rw [hl]; decide), if_pos (show lessC _ _ = true from hg)]
theorem mD_eq (l m : List S40) (i k : Nat) (h : i < l.length) (g : k < m.length) (hl : Op.bytesLess (rd_T40 l i).f0.toList (rd_T40 m k).f0.toList = false) (hg : Op.bytesLess (rd_T40 m k).f0.toList (rd_T40 l i).f0.toList = false) (hv : ((rd_T40 l i).f1.toList == (rd_T40 m k).f1.toList) = true) : mergeD (l.drop i) (m.drop k) = mergeD (l.drop (i + 1)) (m.drop (k + 1)) := by
  rw [drop_cons l i h, drop_cons m k g, mergeD, if_neg (by unfold lessC; rw [hl]; decide), if_neg (by unfold lessC; rw [hg]; decide), if_pos hv]
theorem mD_ne (l m : List S40) (i k : Nat) (h : i < l.length) (g : k < m.length) (hl : Op.bytesLess (rd_T40 l i).f0.toList (rd_T40 m k).f0.toList = false) (hg : Op.bytesLess (rd_T40 m k).f0.toList (rd_T40 l i).f0.toList = false) (hv : ((rd_T40 l i).f1.toList == (rd_T40 m k).f1.toList) = false) : mergeD (l.drop i) (m.drop k) = (rd_T40 l i).f0 :: mergeD (l.drop (i + 1)) (m.drop (k + 1)) := by
  rw [drop_cons l i h, drop_cons m k g, mergeD, if_neg (by unfold lessC; rw [hl]; decide), if_neg (by unfold lessC; rw [hg]; decide), if_neg (by rw [hv]; decide)]
theorem snoc_cons {xs ys zs : List ByteArray} {a : ByteArray} (h : xs ++ zs = ys) {r : List ByteArray} (e : zs = a :: r) : (xs ++ [a]) ++ r = ys := by
  rw [← h, e, List.append_assoc]
  rfl

theorem refDiff_wrong (A B : Option Addr) (c d : Nat) (l m : List S40) (w : World) (HL : Kd.C k40 w A l.length l) (HM : Kd.C k40 w B m.length m) (h : ¬ (rightB l = true ∧ rightB m = true)) :
    Calls Try.prog 19 #[.slice A l.length c, .slice B m.length d] w (DiffPost l m w) := by
  have HL0 := Aside0.mk HL
  have HM0 := Aside0.mk HM
  have HE := Aside0.mk (show diffS l m = [] by unfold diffS; rw [if_neg h])
  have HH := Aside0.mk h
  clear HL HM h
  cases hr : rightB l with
  | false =>
    have HK := Aside0.mk hr
    clear hr
    go_enter Try.func19, Try.ntmps19
    go_wp2_with fail
    refine (ref10_Right_calls A c l _ HL0.out).mono ?_
    rintro e w1 ⟨he, hb⟩
    rw [HK.out] at he
    obtain rfl := he
    have HB := Aside0.mk hb
    clear hb
    go_wp2
    go_ret
    exact ⟨_, rfl, by rw [HE.out]; exact ownS_nil _ _, HB.out⟩
  | true =>
    have HK := Aside0.mk hr
    have HK2 := Aside0.mk (show rightB m = false by cases h : rightB m with
      | false => rfl
      | true => exact absurd ⟨hr, h⟩ HH.out)
    clear hr
    go_enter Try.func19, Try.ntmps19
    go_wp2_with fail
    refine (ref10_Right_calls A c l _ HL0.out).mono ?_
    rintro e w1 ⟨he, hb⟩
    rw [HK.out] at he
    obtain rfl := he
    have HB := Aside0.mk hb
    clear hb
    go_wp2_with fail
    refine (ref10_Right_calls B d m _ (Kd.C_below HM0.out HB.out)).mono ?_
    rintro e w2 ⟨he, hb⟩
    rw [HK2.out] at he
    obtain rfl := he
    have HB2 := Aside0.mk (HB.out.trans (hb.mono HB.out.size))
    clear hb
    go_wp2
    go_ret
    exact ⟨_, rfl, by rw [HE.out]; exact ownS_nil _ _, HB2.out⟩
theorem refDiff_right (A B : Option Addr) (c d : Nat) (l m : List S40) (w : World) (HL : Kd.C k40 w A l.length l) (HM : Kd.C k40 w B m.length m) (hl : l.length < 1099511627776) (hm : m.length < 1099511627776) (h1 : rightB l = true) (h2 : rightB m = true) :
    Calls Try.prog 19 #[.slice A l.length c, .slice B m.length d] w (DiffPost l m w) := by
  have HL0 := Aside0.mk HL
  have HM0 := Aside0.mk HM
  have HK := Aside0.mk h1
  have HK2 := Aside0.mk h2
  have HLAW := Aside0.mk (diff_law l m h1 h2)
  clear HL HM h1 h2
  go_enter Try.func19, Try.ntmps19
  go_wp2_with fail
  refine (ref10_Right_calls A c l _ HL0.out).mono ?_
  rintro e w1 ⟨he, hb⟩
  rw [HK.out] at he
  obtain rfl := he
  have HB := Aside0.mk hb
  clear hb
  go_wp2_with fail
  refine (ref10_Right_calls B d m _ (Kd.C_below HM0.out HB.out)).mono ?_
  rintro e w2 ⟨he, hb⟩
  rw [HK2.out] at he
  obtain rfl := he
  have HB := Aside0.mk (HB.out.trans (hb.mono HB.out.size))
  clear hb
  go_wp2_with fail
  go_loopw [5, 6, 7] (fun v5 v6 v7 w' => ∃ (i k : Nat) (xs : List ByteArray), i ≤ l.length ∧ k ≤ m.length ∧ v6 = .int .i64 i ∧ v7 = .int .i64 k ∧ xs.length ≤ i + k ∧ Aside0 (xs ++ mergeD (l.drop i) (m.drop k) = mergeD l m) ∧ Aside0 (OwnB w' w.heap.size v5 xs) ∧ Aside0 (Below w.heap.size w w')) (fun _ v6 v7 _ => (l.length - (intOf v6).toNat) + (m.length - (intOf v7).toNat))
  case atStart => exact ⟨0, 0, [], by omega, by omega, rfl, rfl, by simp, ⟨by simp⟩, ⟨Kd.R_nil Kd.string 9 _ _ _⟩, HB⟩
  case round =>
    obtain ⟨i, k, xs, hi, hk, rfl, rfl, hxl, HE, HO, HB⟩ := hrel
    have HXL := Aside0.mk (show xs.length < 4398046511103 by omega)
    have HXI := Aside0.mk hxl
    clear hxl
    by_cases hi2 : i < l.length
    · by_cases hk2 : k < m.length
      · skip
        obtain ⟨ad, rfl, x0, x1⟩ := at_T40 HL0.out i (by omega) (by omega)
        simp only [Int.toNat_natCast] at x0 x1
        have X0 := Aside0.mk x0
        have X1 := Aside0.mk x1
        clear x0 x1
        obtain ⟨bd, rfl, y0, y1⟩ := at_T40 HM0.out k (by omega) (by omega)
        simp only [Int.toNat_natCast] at y0 y1
        have Y0 := Aside0.mk y0
        have Y1 := Aside0.mk y1
        clear y0 y1
        have i1 : (i : Int) < (l.length : Int) := by omega
        have i2 : decide (l.length ≤ i) = false := decide_eq_false (by omega)
        have k1 : (k : Int) < (m.length : Int) := by omega
        have k2 : decide (m.length ≤ k) = false := decide_eq_false (by omega)
        cases hab : Op.bytesLess (rd_T40 l i).f0.toList (rd_T40 m k).f0.toList with
        | true =>
          have HAB := Aside0.mk hab
          go_wp2_with fail
          refine wp_region_flat (fun w' => OwnB w' w.heap.size u5 xs ∧ Below w.heap.size w w') (by kernel_rfl) (by kernel_rfl) ⟨Kd.R_drew HO.out, below_drew HB.out⟩ ?_
          repeat
            (apply Flat.cons
             · intro w' hS
               obtain ⟨q1, q2⟩ := hS
               have Q1 := Aside0.mk q1
               have Q2 := Aside0.mk q2
               have x0 := pw_cell_below q2 X0.out
               have x1 := pw_cell_below q2 X1.out
               have y0 := pw_cell_below q2 Y0.out
               have y1 := pw_cell_below q2 Y1.out
               clear q1 q2
               go_wp2_with fail
               exact flat_end rfl ⟨Q1.out, Q2.out⟩
             · exact rfl)
          refine Flat.nil fun W2 hS => ?_
          have HO := Aside0.mk hS.1
          have HB := Aside0.mk hS.2
          clear hS
          clear hab
          have x0 := pw_cell_below HB.out X0.out
          go_wp2_with (at_builtin; go_must (refine app1B (w0 := w) w.heap.size rfl (.tmp 49) (.tmp 55) rfl u5 xs (rd_T40 l i).f0 rfl rfl HO.out HB.out HB.out.size HXL.out ?_); intro v1 w6 h1 h2 h3)
          go_roundw
          case rel => exact ⟨i + 1, k, _, by omega, by omega, by go_num, by go_num, by have := HXI.out; simp; omega, ⟨snoc_cons HE.out (mD_lt l m i k hi2 hk2 HAB.out)⟩, ⟨h1⟩, ⟨h2⟩⟩
          case measure => simp [intOf]; omega
        | false =>
          have HAB := Aside0.mk hab
          cases hba : Op.bytesLess (rd_T40 m k).f0.toList (rd_T40 l i).f0.toList with
          | true =>
            have HBA := Aside0.mk hba
            go_wp2_with fail
            refine wp_region_flat (fun w' => OwnB w' w.heap.size u5 xs ∧ Below w.heap.size w w') (by kernel_rfl) (by kernel_rfl) ⟨Kd.R_drew HO.out, below_drew HB.out⟩ ?_
            repeat
              (apply Flat.cons
               · intro w' hS
                 obtain ⟨q1, q2⟩ := hS
                 have Q1 := Aside0.mk q1
                 have Q2 := Aside0.mk q2
                 have x0 := pw_cell_below q2 X0.out
                 have x1 := pw_cell_below q2 X1.out
                 have y0 := pw_cell_below q2 Y0.out
                 have y1 := pw_cell_below q2 Y1.out
                 clear q1 q2
                 go_wp2_with fail
                 exact flat_end rfl ⟨Q1.out, Q2.out⟩
               · exact rfl)
            refine Flat.nil fun W2 hS => ?_
            have HO := Aside0.mk hS.1
            have HB := Aside0.mk hS.2
            clear hS
            go_wp2_with fail
            refine wp_region_flat (fun w' => OwnB w' w.heap.size u5 xs ∧ Below w.heap.size w w') (by kernel_rfl) (by kernel_rfl) ⟨Kd.R_drew HO.out, below_drew HB.out⟩ ?_
            repeat
              (apply Flat.cons
               · intro w' hS
                 obtain ⟨q1, q2⟩ := hS
                 have Q1 := Aside0.mk q1
                 have Q2 := Aside0.mk q2
                 have x0 := pw_cell_below q2 X0.out
                 have x1 := pw_cell_below q2 X1.out
                 have y0 := pw_cell_below q2 Y0.out
                 have y1 := pw_cell_below q2 Y1.out
                 clear q1 q2
                 go_wp2_with fail
                 exact flat_end rfl ⟨Q1.out, Q2.out⟩
               · exact rfl)
            refine Flat.nil fun W2 hS => ?_
            have HO := Aside0.mk hS.1
            have HB := Aside0.mk hS.2
            clear hS
            clear hab hba
            have y0 := pw_cell_below HB.out Y0.out
            go_wp2_with (at_builtin; go_must (refine app1B (w0 := w) w.heap.size rfl (.tmp 76) (.tmp 82) rfl u5 xs (rd_T40 m k).f0 rfl rfl HO.out HB.out HB.out.size HXL.out ?_); intro v1 w6 h1 h2 h3)
            go_roundw
            case rel => exact ⟨i, k + 1, _, by omega, by omega, by go_num, by go_num, by have := HXI.out; simp; omega, ⟨snoc_cons HE.out (mD_gt l m i k hi2 hk2 HAB.out HBA.out)⟩, ⟨h1⟩, ⟨h2⟩⟩
            case measure => simp [intOf]; omega
          | false =>
            have HBA := Aside0.mk hba
            cases hv : ((rd_T40 l i).f1.toList == (rd_T40 m k).f1.toList) with
            | true =>
              have HV := Aside0.mk hv
              have hv2 : ((rd_T40 l i).f1.toList != (rd_T40 m k).f1.toList) = false := by simp only [bne, hv]; rfl
              go_wp2_with fail
              refine wp_region_flat (fun w' => OwnB w' w.heap.size u5 xs ∧ Below w.heap.size w w') (by kernel_rfl) (by kernel_rfl) ⟨Kd.R_drew HO.out, below_drew HB.out⟩ ?_
              repeat
                (apply Flat.cons
                 · intro w' hS
                   obtain ⟨q1, q2⟩ := hS
                   have Q1 := Aside0.mk q1
                   have Q2 := Aside0.mk q2
                   have x0 := pw_cell_below q2 X0.out
                   have x1 := pw_cell_below q2 X1.out
                   have y0 := pw_cell_below q2 Y0.out
                   have y1 := pw_cell_below q2 Y1.out
                   clear q1 q2
                   go_wp2_with fail
                   exact flat_end rfl ⟨Q1.out, Q2.out⟩
                 · exact rfl)
              refine Flat.nil fun W2 hS => ?_
              have HO := Aside0.mk hS.1
              have HB := Aside0.mk hS.2
              clear hS
              go_wp2_with fail
              refine wp_region_flat (fun w' => OwnB w' w.heap.size u5 xs ∧ Below w.heap.size w w') (by kernel_rfl) (by kernel_rfl) ⟨Kd.R_drew HO.out, below_drew HB.out⟩ ?_
              repeat
                (apply Flat.cons
                 · intro w' hS
                   obtain ⟨q1, q2⟩ := hS
                   have Q1 := Aside0.mk q1
                   have Q2 := Aside0.mk q2
                   have x0 := pw_cell_below q2 X0.out
                   have x1 := pw_cell_below q2 X1.out
                   have y0 := pw_cell_below q2 Y0.out
                   have y1 := pw_cell_below q2 Y1.out
                   clear q1 q2
                   go_wp2_with fail
                   exact flat_end rfl ⟨Q1.out, Q2.out⟩
                 · exact rfl)
              refine Flat.nil fun W2 hS => ?_
              have HO := Aside0.mk hS.1
              have HB := Aside0.mk hS.2
              clear hS
              go_wp2_with fail
              refine wp_region_flat (fun w' => OwnB w' w.heap.size u5 xs ∧ Below w.heap.size w w') (by kernel_rfl) (by kernel_rfl) ⟨Kd.R_drew HO.out, below_drew HB.out⟩ ?_
              repeat
                (apply Flat.cons
                 · intro w' hS
                   obtain ⟨q1, q2⟩ := hS
                   have Q1 := Aside0.mk q1
                   have Q2 := Aside0.mk q2
                   have x0 := pw_cell_below q2 X0.out
                   have x1 := pw_cell_below q2 X1.out
                   have y0 := pw_cell_below q2 Y0.out
                   have y1 := pw_cell_below q2 Y1.out
                   clear q1 q2
                   go_wp2_with fail
                   exact flat_end rfl ⟨Q1.out, Q2.out⟩
                 · exact rfl)
              refine Flat.nil fun W2 hS => ?_
              have HO := Aside0.mk hS.1
              have HB := Aside0.mk hS.2
              clear hS
              clear hab hba hv hv2
              go_wp2_with fail
              go_roundw
              case rel => exact ⟨i + 1, k + 1, xs, by omega, by omega, by go_num, by go_num, by have := HXI.out; omega, ⟨by rw [← mD_eq l m i k hi2 hk2 HAB.out HBA.out HV.out]; exact HE.out⟩, HO, HB⟩
              case measure => simp [intOf]; omega
            | false =>
              have HV := Aside0.mk hv
              have hv2 : ((rd_T40 l i).f1.toList != (rd_T40 m k).f1.toList) = true := by simp only [bne, hv]; rfl
              go_wp2_with fail
              refine wp_region_flat (fun w' => OwnB w' w.heap.size u5 xs ∧ Below w.heap.size w w') (by kernel_rfl) (by kernel_rfl) ⟨Kd.R_drew HO.out, below_drew HB.out⟩ ?_
              repeat
                (apply Flat.cons
                 · intro w' hS
                   obtain ⟨q1, q2⟩ := hS
                   have Q1 := Aside0.mk q1
                   have Q2 := Aside0.mk q2
                   have x0 := pw_cell_below q2 X0.out
                   have x1 := pw_cell_below q2 X1.out
                   have y0 := pw_cell_below q2 Y0.out
                   have y1 := pw_cell_below q2 Y1.out
                   clear q1 q2
                   go_wp2_with fail
                   exact flat_end rfl ⟨Q1.out, Q2.out⟩
                 · exact rfl)
              refine Flat.nil fun W2 hS => ?_
              have HO := Aside0.mk hS.1
              have HB := Aside0.mk hS.2
              clear hS
              go_wp2_with fail
              refine wp_region_flat (fun w' => OwnB w' w.heap.size u5 xs ∧ Below w.heap.size w w') (by kernel_rfl) (by kernel_rfl) ⟨Kd.R_drew HO.out, below_drew HB.out⟩ ?_
              repeat
                (apply Flat.cons
                 · intro w' hS
                   obtain ⟨q1, q2⟩ := hS
                   have Q1 := Aside0.mk q1
                   have Q2 := Aside0.mk q2
                   have x0 := pw_cell_below q2 X0.out
                   have x1 := pw_cell_below q2 X1.out
                   have y0 := pw_cell_below q2 Y0.out
                   have y1 := pw_cell_below q2 Y1.out
                   clear q1 q2
                   go_wp2_with fail
                   exact flat_end rfl ⟨Q1.out, Q2.out⟩
                 · exact rfl)
              refine Flat.nil fun W2 hS => ?_
              have HO := Aside0.mk hS.1
              have HB := Aside0.mk hS.2
              clear hS
              go_wp2_with fail
              refine wp_region_flat (fun w' => OwnB w' w.heap.size u5 xs ∧ Below w.heap.size w w') (by kernel_rfl) (by kernel_rfl) ⟨Kd.R_drew HO.out, below_drew HB.out⟩ ?_
              repeat
                (apply Flat.cons
                 · intro w' hS
                   obtain ⟨q1, q2⟩ := hS
                   have Q1 := Aside0.mk q1
                   have Q2 := Aside0.mk q2
                   have x0 := pw_cell_below q2 X0.out
                   have x1 := pw_cell_below q2 X1.out
                   have y0 := pw_cell_below q2 Y0.out
                   have y1 := pw_cell_below q2 Y1.out
                   clear q1 q2
                   go_wp2_with fail
                   exact flat_end rfl ⟨Q1.out, Q2.out⟩
                 · exact rfl)
              refine Flat.nil fun W2 hS => ?_
              have HO := Aside0.mk hS.1
              have HB := Aside0.mk hS.2
              clear hS
              clear hab hba hv hv2
              have x0 := pw_cell_below HB.out X0.out
              go_wp2_with (at_builtin; go_must (refine app1B (w0 := w) w.heap.size rfl (.tmp 97) (.tmp 103) rfl u5 xs (rd_T40 l i).f0 rfl rfl HO.out HB.out HB.out.size HXL.out ?_); intro v1 w6 h1 h2 h3)
              go_roundw
              case rel => exact ⟨i + 1, k + 1, _, by omega, by omega, by go_num, by go_num, by have := HXI.out; simp; omega, ⟨snoc_cons HE.out (mD_ne l m i k hi2 hk2 HAB.out HBA.out HV.out)⟩, ⟨h1⟩, ⟨h2⟩⟩
              case measure => simp [intOf]; omega
      · obtain rfl : k = m.length := by omega
        obtain ⟨ad, rfl, x0, x1⟩ := at_T40 HL0.out i (by omega) (by omega)
        simp only [Int.toNat_natCast] at x0 x1
        have X0 := Aside0.mk x0
        have X1 := Aside0.mk x1
        clear x0 x1
        have i1 : (i : Int) < (l.length : Int) := by omega
        have i2 : decide (l.length ≤ i) = false := decide_eq_false (by omega)
        clear hk2
        go_wp2_with fail
        refine wp_region_flat (fun w' => OwnB w' w.heap.size u5 xs ∧ Below w.heap.size w w') (by kernel_rfl) (by kernel_rfl) ⟨Kd.R_drew HO.out, below_drew HB.out⟩ ?_
        repeat
          (apply Flat.cons
           · intro w' hS
             obtain ⟨q1, q2⟩ := hS
             have Q1 := Aside0.mk q1
             have Q2 := Aside0.mk q2
             have x0 := pw_cell_below q2 X0.out
             have x1 := pw_cell_below q2 X1.out
             clear q1 q2
             go_wp2_with fail
             exact flat_end rfl ⟨Q1.out, Q2.out⟩
           · exact rfl)
        refine Flat.nil fun W2 hS => ?_
        have HO := Aside0.mk hS.1
        have HB := Aside0.mk hS.2
        clear hS
        have x0 := pw_cell_below HB.out X0.out
        go_wp2_with (at_builtin; go_must (refine app1B (w0 := w) w.heap.size rfl (.tmp 49) (.tmp 55) rfl u5 xs (rd_T40 l i).f0 rfl rfl HO.out HB.out HB.out.size HXL.out ?_); intro v1 w6 h1 h2 h3)
        go_roundw
        case rel => exact ⟨i + 1, m.length, _, by omega, by omega, by go_num, by go_num, by have := HXI.out; simp; omega, ⟨snoc_cons HE.out (mD_end l m i hi2)⟩, ⟨h1⟩, ⟨h2⟩⟩
        case measure => simp [intOf]; omega
    · obtain rfl : i = l.length := by omega
      clear hi2
      by_cases hk2 : k < m.length
      · skip
        obtain ⟨bd, rfl, y0, y1⟩ := at_T40 HM0.out k (by omega) (by omega)
        simp only [Int.toNat_natCast] at y0 y1
        have Y0 := Aside0.mk y0
        have Y1 := Aside0.mk y1
        clear y0 y1
        have k1 : (k : Int) < (m.length : Int) := by omega
        have k2 : decide (m.length ≤ k) = false := decide_eq_false (by omega)
        go_wp2_with fail
        refine wp_region_flat (fun w' => OwnB w' w.heap.size u5 xs ∧ Below w.heap.size w w') (by kernel_rfl) (by kernel_rfl) ⟨Kd.R_drew HO.out, below_drew HB.out⟩ ?_
        repeat
          (apply Flat.cons
           · intro w' hS
             obtain ⟨q1, q2⟩ := hS
             have Q1 := Aside0.mk q1
             have Q2 := Aside0.mk q2
             have y0 := pw_cell_below q2 Y0.out
             have y1 := pw_cell_below q2 Y1.out
             clear q1 q2
             go_wp2_with fail
             exact flat_end rfl ⟨Q1.out, Q2.out⟩
           · exact rfl)
        refine Flat.nil fun W2 hS => ?_
        have HO := Aside0.mk hS.1
        have HB := Aside0.mk hS.2
        clear hS
        go_wp2_with fail
        refine wp_region_flat (fun w' => OwnB w' w.heap.size u5 xs ∧ Below w.heap.size w w') (by kernel_rfl) (by kernel_rfl) ⟨Kd.R_drew HO.out, below_drew HB.out⟩ ?_
        repeat
          (apply Flat.cons
           · intro w' hS
             obtain ⟨q1, q2⟩ := hS
             have Q1 := Aside0.mk q1
             have Q2 := Aside0.mk q2
             have y0 := pw_cell_below q2 Y0.out
             have y1 := pw_cell_below q2 Y1.out
             clear q1 q2
             go_wp2_with fail
             exact flat_end rfl ⟨Q1.out, Q2.out⟩
           · exact rfl)
        refine Flat.nil fun W2 hS => ?_
        have HO := Aside0.mk hS.1
        have HB := Aside0.mk hS.2
        clear hS
        have y0 := pw_cell_below HB.out Y0.out
        go_wp2_with (at_builtin; go_must (refine app1B (w0 := w) w.heap.size rfl (.tmp 76) (.tmp 82) rfl u5 xs (rd_T40 m k).f0 rfl rfl HO.out HB.out HB.out.size HXL.out ?_); intro v1 w6 h1 h2 h3)
        go_roundw
        case rel => exact ⟨l.length, k + 1, _, by omega, by omega, by go_num, by go_num, by have := HXI.out; simp; omega, ⟨snoc_cons HE.out (mD_end2 l m k hk2)⟩, ⟨h1⟩, ⟨h2⟩⟩
        case measure => simp [intOf]; omega
      · obtain rfl : k = m.length := by omega
        clear hk2
        go_wp2_with fail
        go_ret
        refine ⟨_, rfl, ?_, HB.out⟩
        have h := HE.out
        rw [List.drop_length, List.drop_length, mergeD, List.append_nil] at h
        rw [← HLAW.out, ← h]
        exact ownS_of HO.out
theorem refDiff_calls (A B : Option Addr) (c d : Nat) (l m : List S40) (w : World) (HL : Kd.C k40 w A l.length l) (HM : Kd.C k40 w B m.length m) (hl : l.length < 1099511627776) (hm : m.length < 1099511627776) :
    Calls Try.prog 19 #[.slice A l.length c, .slice B m.length d] w (DiffPost l m w) := by
  by_cases h : rightB l = true ∧ rightB m = true
  · exact refDiff_right A B c d l m w HL HM hl hm h.1 h.2
  · exact refDiff_wrong A B c d l m w HL HM h
end Go.Proofs.Ytcnmefocbjilbaa.G
namespace Go.Proofs.Ytcnmefocbjilbaa.G
open Go.RowKit Go.Proofs.YtcnmefocbjilbaaW.PrintWords Go.Proofs.YtcnmefocbjilbaaW.PrintLast Go.Proofs.YtcnmefocbjilbaaW.PrintMore
open Go.Proofs.YtcnmefocbjilbaaFlat
set_option maxHeartbeats 60000000
set_option maxRecDepth 100000

theorem now_len {l : List S40} {ds : List S50} (hc : ∀ j : Nat, j < ds.length → (rd_T50 ds j).f1.length ≤ 20) (hl : l.length ≤ 40) : ∀ k, k ≤ ds.length → (nowAt l ds k).length ≤ 40 + 20 * k := by
  intro k
  induction k with
  | zero => intro _; simpa [nowAt] using hl
  | succ k ih =>
    intro hk
    rw [nowAt_succ l ds k (by omega)]
    have h1 := ih (by omega)
    have h2 := hc k (by omega)
    have h3 := (runS_len (nowAt l ds k) (rd_T50 ds k).f1).1
    omega
theorem fair_of {l : List S40} {ds : List S50} (hc : ∀ j : Nat, j < ds.length → (rd_T50 ds j).f1.length ≤ 20) (hl : l.length ≤ 40) (hd : ds.length ≤ 10) : Fair l ds :=
  ⟨fun k hk => by have := now_len hc hl k hk; omega, fun k hk => by have := hc k hk; omega⟩
theorem ownS_max {w : World} {base : Nat} {v : Value} {ss : List (List UInt8)} (h : OwnS w base v ss) : ss.length ≤ 9223372036854775807 := by
  rcases h.2 with ⟨_, h0⟩ | ⟨g, cap, cur, _, _, _, hnc, hcm, _⟩
  · omega
  · simp only [maxLen] at hcm
    omega
theorem refSame_yes (A B : Option Addr) (c d : Nat) (r s : S34) (w : World) (HX : Kd.C k40 w A r.f6.length r.f6) (HY : Kd.C k40 w B s.f6.length s.f6) (h : alike r s) :
    Calls Try.prog 14 #[aggR r (.slice A r.f6.length c), aggR s (.slice B s.f6.length d)] w (fun e w' => e = .returned (.bool true) ∧ Below w.heap.size w w') := refSame_is A B c d r s true w HX HY (by simp [h])
theorem refSame_not (A B : Option Addr) (c d : Nat) (r s : S34) (w : World) (HX : Kd.C k40 w A r.f6.length r.f6) (HY : Kd.C k40 w B s.f6.length s.f6) (h : ¬ alike r s) :
    Calls Try.prog 14 #[aggR r (.slice A r.f6.length c), aggR s (.slice B s.f6.length d)] w (fun e w' => e = .returned (.bool false) ∧ Below w.heap.size w w') := refSame_is A B c d r s false w HX HY (by simp [h])
theorem modelSame_yes (A B : Option Addr) (c d : Nat) (r s : S34) (w : World) (HX : Kd.C k40 w A r.f6.length r.f6) (HY : Kd.C k40 w B s.f6.length s.f6) (h : alike r s) :
    Calls Try.prog 15 #[aggR r (.slice A r.f6.length c), aggR s (.slice B s.f6.length d)] w (fun e w' => e = .returned (.bool true) ∧ Below w.heap.size w w') := modelSame_is A B c d r s true w HX HY (by simp [h])
theorem modelSame_not (A B : Option Addr) (c d : Nat) (r s : S34) (w : World) (HX : Kd.C k40 w A r.f6.length r.f6) (HY : Kd.C k40 w B s.f6.length s.f6) (h : ¬ alike r s) :
    Calls Try.prog 15 #[aggR r (.slice A r.f6.length c), aggR s (.slice B s.f6.length d)] w (fun e w' => e = .returned (.bool false) ∧ Below w.heap.size w w') := modelSame_is A B c d r s false w HX HY (by simp [h])
theorem alike_refl (r : S34) : alike r r := ⟨rfl, rfl, rfl, rfl, rfl⟩

theorem Runs_calls (A B D : Option Addr) (c d g : Nat) (l m : List S40) (ds : List S50) (w : World) (HL : Kd.C k40 w A l.length l) (HM : Kd.C k40 w B m.length m) (HD : Kd.C k50 w D ds.length ds) (hc : l.length ≤ c) :
    Calls Try.prog 5 #[.slice A l.length c, .slice B m.length d, .slice D ds.length g] w (fun e w' => e = .returned (.bool true) ∧ Below w.heap.size w w') := by
  have HL0 := Aside0.mk HL
  have HM0 := Aside0.mk HM
  have HD0 := Aside0.mk HD
  have HC := Aside0.mk hc
  have hmd := Kd.C_max HD
  clear HL HM HD hc
  have HB := Aside0.mk (Below.refl w.heap.size w)
  go_enter Try.func5, Try.ntmps5
  go_wp2_with fail
  refine (great_calls A c l _ (Kd.C_below HL0.out HB.out)).mono ?_
  rintro e w1 ⟨⟨bg, rfl, hbg⟩, NB⟩
  have HBG := Aside0.mk hbg
  clear hbg
  replace HB := Aside0.mk (HB.out.trans (NB.mono HB.out.size))
  clear NB
  cases bg with
  | true =>
    go_wp2_with fail
    refine (head_calls _).mono ?_
    rintro e wh ⟨rfl, hb⟩
    go_wp2_with fail
    go_ret
    exact ⟨rfl, HB.out.trans (hb.mono HB.out.size)⟩
  | false =>
    have hl40 := HBG.out rfl
    clear HBG
    go_wp2_with fail
    refine (great_calls B d m _ (Kd.C_below HM0.out HB.out)).mono ?_
    rintro e w2 ⟨⟨bg, rfl, hbg⟩, NB⟩
    have HBG := Aside0.mk hbg
    clear hbg
    replace HB := Aside0.mk (HB.out.trans (NB.mono HB.out.size))
    clear NB
    cases bg with
    | true =>
      go_wp2_with fail
      refine (head_calls _).mono ?_
      rintro e wh ⟨rfl, hb⟩
      go_wp2_with fail
      go_ret
      exact ⟨rfl, HB.out.trans (hb.mono HB.out.size)⟩
    | false =>
      have hm40 := HBG.out rfl
      clear HBG
      by_cases h10 : 10 < ds.length
      · have h10i : (10 : Int) < (ds.length : Int) := by omega
        go_wp2_with fail
        refine (head_calls _).mono ?_
        rintro e wh ⟨rfl, hb⟩
        go_wp2_with fail
        go_ret
        exact ⟨rfl, HB.out.trans (hb.mono HB.out.size)⟩
      have h10i : ds.length ≤ 10 := by omega
      have h10j : decide ((10 : Int) < (ds.length : Int)) = false := decide_eq_false (by omega)
      go_wp2_with fail
      clear h10 h10j
      go_loopw [7] (fun v7 w' => ∃ i : Nat, i ≤ ds.length ∧ v7 = .int .i64 i ∧ Aside0 (∀ j : Nat, j < i → (rd_T50 ds j).f1.length ≤ 20) ∧ Aside0 (Below w.heap.size w w')) (fun v7 _ => ds.length - (intOf v7).toNat)
      case atStart => exact ⟨0, by omega, rfl, ⟨fun j h => absurd h (by omega)⟩, HB⟩
      case round =>
        clear HB
        obtain ⟨i, hi, rfl, HF, HB⟩ := hrel
        by_cases hlt : i < ds.length
        · obtain ⟨ad, A1, c1, A2, c2, rfl, x0, x1, x2, l1, g1, l2, g2⟩ := at_T50 HD0.out i (by omega) (by omega)
          simp only [Int.toNat_natCast] at x0 x1 x2
          have X1 := Aside0.mk x1
          have X2 := Aside0.mk x2
          have G1 := Aside0.mk g1
          have G2 := Aside0.mk g2
          have hm2 := Kd.C_max g2
          clear x0 x1 x2 l1 l2 g1 g2
          have i1 : (i : Int) < (ds.length : Int) := by omega
          have x1 := pw_cell_below HB.out X1.out
          have x2 := pw_cell_below HB.out X2.out
          go_wp2_with fail
          refine (many_calls A1 c1 (rd_T50 ds i).f1 _ (Kd.C_below G1.out HB.out)).mono ?_
          rintro e w3 ⟨⟨bm, rfl, hbm⟩, NB⟩
          have HBM := Aside0.mk hbm
          clear hbm x1 x2
          replace HB := Aside0.mk (HB.out.trans (NB.mono HB.out.size))
          clear NB
          have x2 := pw_cell_below HB.out X2.out
          cases bm with
          | true =>
            go_wp2_with fail
            refine (head_calls _).mono ?_
            rintro e wh ⟨rfl, hb⟩
            go_wp2_with fail
            go_ret
            exact ⟨rfl, HB.out.trans (hb.mono HB.out.size)⟩
          | false =>
            by_cases h20 : 20 < (rd_T50 ds i).f2.length
            · have h20i : (20 : Int) < ((rd_T50 ds i).f2.length : Int) := by omega
              go_wp2_with fail
              refine (head_calls _).mono ?_
              rintro e wh ⟨rfl, hb⟩
              go_wp2_with fail
              go_ret
              exact ⟨rfl, HB.out.trans (hb.mono HB.out.size)⟩
            have h20j : decide ((20 : Int) < ((rd_T50 ds i).f2.length : Int)) = false := decide_eq_false (by omega)
            go_wp2_with fail
            clear h20 h20j x2
            go_loopw [8] (fun v8 w' => ∃ k : Nat, k ≤ (rd_T50 ds i).f2.length ∧ v8 = .int .i64 k ∧ Aside0 (Below w.heap.size w w')) (fun v8 _ => (rd_T50 ds i).f2.length - (intOf v8).toNat)
            case atStart => exact ⟨0, by omega, rfl, HB⟩
            case round =>
              clear HB
              obtain ⟨k, hk, rfl, HB⟩ := hrel
              have x2 := pw_cell_below HB.out X2.out
              by_cases hlk : k < (rd_T50 ds i).f2.length
              · obtain ⟨rd, A6, c6, rfl, y0, y1, y2, y3, y4, y5, y6, yl, yg⟩ := at_T34 G2.out k (by omega) (by omega)
                simp only [Int.toNat_natCast] at y0 y1 y2 y3 y4 y5 y6
                have Y5 := Aside0.mk y5
                have Y6 := Aside0.mk y6
                have YG := Aside0.mk yg
                clear y0 y1 y2 y3 y4 y5 y6 yl yg
                have y6 := pw_cell_below HB.out Y6.out
                have k1 : (k : Int) < ((rd_T50 ds i).f2.length : Int) := by omega
                go_wp2_with fail
                refine (great_calls A6 c6 (rd_T34 (rd_T50 ds i).f2 k).f6 _ (Kd.C_below YG.out HB.out)).mono ?_
                rintro e w4 ⟨⟨bg, rfl, -⟩, NB⟩
                clear x2 y6
                replace HB := Aside0.mk (HB.out.trans (NB.mono HB.out.size))
                clear NB
                cases bg with
                | true =>
                  go_wp2_with fail
                  refine (head_calls _).mono ?_
                  rintro e wh ⟨rfl, hb⟩
                  go_wp2_with fail
                  go_ret
                  exact ⟨rfl, HB.out.trans (hb.mono HB.out.size)⟩
                | false =>
                  have x2 := pw_cell_below HB.out X2.out
                  have y5 := pw_cell_below HB.out Y5.out
                  by_cases h5 : 5000 < (rd_T34 (rd_T50 ds i).f2 k).f5.size
                  · have h5i : (5000 : Int) < ((rd_T34 (rd_T50 ds i).f2 k).f5.size : Int) := by omega
                    go_wp2_with fail
                    refine (head_calls _).mono ?_
                    rintro e wh ⟨rfl, hb⟩
                    go_wp2_with fail
                    go_ret
                    exact ⟨rfl, HB.out.trans (hb.mono HB.out.size)⟩
                  have h5j : decide ((5000 : Int) < ((rd_T34 (rd_T50 ds i).f2 k).f5.size : Int)) = false := decide_eq_false (by omega)
                  go_wp2_with fail
                  go_roundw
                  case rel => exact ⟨k + 1, by omega, by go_num, HB⟩
                  case measure => simp [intOf]; omega
              · obtain rfl : k = (rd_T50 ds i).f2.length := by omega
                clear hlk
                go_wp2_with fail
                go_roundw
                case rel => exact ⟨i + 1, by omega, by go_num, ⟨fun j hj => by
                  rcases Nat.lt_or_ge j i with h1 | h1
                  · exact HF.out j h1
                  · obtain rfl : j = i := by omega
                    exact HBM.out (by trivial)⟩, HB⟩
                case measure => simp [intOf]; omega
        · obtain rfl : i = ds.length := by omega
          clear hlt
          have HFR := Aside0.mk (fair_of HF.out hl40 h10i)
          go_wp2_with fail
          refine (Diff_calls A B c d l m _ (Kd.C_below HL0.out HB.out) (Kd.C_below HM0.out HB.out) (by omega) (by omega)).mono ?_
          rintro e w3 ⟨vd, rfl, hod, NB⟩
          replace HB := Aside0.mk (HB.out.trans (NB.mono HB.out.size))
          obtain ⟨AD, cd, rfl⟩ := ownS_slice hod
          have HOD := Aside0.mk hod
          clear hod NB
          go_wp2_with fail
          refine (refDiff_calls A B c d l m _ (Kd.C_below HL0.out HB.out) (Kd.C_below HM0.out HB.out) (by omega) (by omega)).mono ?_
          rintro e w4 ⟨ve, rfl, hoe, NB⟩
          replace HB := Aside0.mk (HB.out.trans (NB.mono HB.out.size))
          obtain ⟨AE, ce, rfl⟩ := ownS_slice hoe
          replace HOD := Aside0.mk (ownS_below HOD.out NB)
          have HOE := Aside0.mk hoe
          clear hoe NB
          have hdm : (diffS l m).length ≤ 9223372036854775807 := ownS_max HOD.out
          generalize diffS l m = E at HOD HOE hdm ⊢
          go_wp2_with fail
          have HB4 := HB
          clear HB
          go_loopw [11] (fun v11 w' => ∃ i : Nat, i ≤ E.length ∧ v11 = .int .i64 i ∧ Aside0 (Below w4.heap.size w4 w')) (fun v11 _ => E.length - (intOf v11).toNat)
          case atStart => exact ⟨0, by omega, rfl, ⟨Below.refl _ _⟩⟩
          case round =>
            obtain ⟨i, hi, rfl, HW⟩ := hrel
            by_cases hlt : i < E.length
            · obtain ⟨gd, cd2, ed, hcd⟩ := ownS_cells HOD.out (by omega)
              obtain ⟨ge, ce2, ee, hce⟩ := ownS_cells HOE.out (by omega)
              injection ed with e1 e2 e3
              subst e1
              clear e2 e3
              injection ee with e1 e2 e3
              subst e1
              clear e2 e3
              have u0 := pw_cell_below HW.out (hcd i hlt)
              have u1 := pw_cell_below HW.out (hce i hlt)
              clear hcd hce
              have i1 : (i : Int) < (E.length : Int) := by omega
              unfold encStr at u0 u1
              go_wp2_with fail
              go_quiet (fail)
              go_wp2_with fail
              go_roundw
              case rel => exact ⟨i + 1, by omega, by go_num, ⟨pw_below_drewN HW.out _⟩⟩
              case measure => simp [intOf]; omega
            · obtain rfl : i = E.length := by omega
              clear hlt
              have HB := Aside0.mk (HB4.out.trans (HW.out.mono HB4.out.size))
              clear HB4 HW HOD HOE
              go_wp2_with fail
              refine (Serial_calls A D c g l ds _ (Kd.C_below HL0.out HB.out) (Kd.C_below HD0.out HB.out) HFR.out (by omega)).mono ?_
              rintro e w5 ⟨va, ma, na, rfl, hva, hsa, NB⟩
              replace HB := Aside0.mk (HB.out.trans (NB.mono HB.out.size))
              obtain ⟨VA, ca, rfl, -, hca⟩ := Kd.R_reads hva
              have CA := Aside0.mk hca
              have HSA := Aside0.mk hsa
              clear hva hca hsa NB
              go_wp2_with fail
              refine (refSerial_calls A D c g l ds _ (Kd.C_below HL0.out HB.out) (Kd.C_below HD0.out HB.out) HFR.out (by omega)).mono ?_
              rintro e w6 ⟨vb, mb, nb, rfl, hvb, hsb, NB⟩
              replace HB := Aside0.mk (HB.out.trans (NB.mono HB.out.size))
              obtain ⟨rfl, rfl⟩ := serial_one HSA.out hsb
              obtain ⟨VB, cb, rfl, -, hcb⟩ := Kd.R_reads hvb
              replace CA := Aside0.mk (Kd.C_below CA.out NB)
              have CB := Aside0.mk hcb
              clear hvb hcb hsb NB HSA
              go_wp2_with fail
              refine (ref10_Same_calls VA VB ca cb ma ma _ CA.out CB.out).mono ?_
              rintro e w7 ⟨⟨b, rfl, hbb⟩, NB⟩
              obtain rfl : b = true := hbb.2 rfl
              replace HB := Aside0.mk (HB.out.trans (NB.mono HB.out.size))
              clear NB hbb CA CB
              go_wp2_with fail
              go_loopw [16] (fun v16 w' => ∃ i : Nat, i ≤ ds.length ∧ v16 = .int .i64 i ∧ Aside0 (Below w.heap.size w w')) (fun v16 _ => ds.length - (intOf v16).toNat)
              case atStart => exact ⟨0, by omega, rfl, HB⟩
              case round =>
                clear HB
                obtain ⟨i, hi, rfl, HB⟩ := hrel
                by_cases hlt : i < ds.length
                · obtain ⟨ad, A1, c1, A2, c2, rfl, x0, x1, x2, l1, g1, l2, g2⟩ := at_T50 HD0.out i (by omega) (by omega)
                  simp only [Int.toNat_natCast] at x0 x1 x2
                  have X1 := Aside0.mk x1
                  have X2 := Aside0.mk x2
                  have G1 := Aside0.mk g1
                  have G2 := Aside0.mk g2
                  have hm2 := Kd.C_max g2
                  clear x0 x1 x2 l1 l2 g1 g2
                  have i1 : (i : Int) < (ds.length : Int) := by omega
                  have H20 := Aside0.mk (HF.out i hlt)
                  have HLL := Aside0.mk (show l.length + (rd_T50 ds i).f1.length < 1099511627775 by have := H20.out; omega)
                  have x1 := pw_cell_below HB.out X1.out
                  go_wp2_with fail
                  refine (Run_calls A A1 c c1 l (rd_T50 ds i).f1 _ (Kd.C_below HL0.out HB.out) (Kd.C_below G1.out HB.out) HC.out HLL.out).mono ?_
                  rintro e w8 ⟨va, vt, rfl, hva, hvt, NB⟩
                  replace HB := Aside0.mk (HB.out.trans (NB.mono HB.out.size))
                  obtain ⟨P, hP⟩ : ∃ P, runS l (rd_T50 ds i).f1 = P := ⟨_, rfl⟩
                  rw [hP] at hva hvt
                  have HP := Aside0.mk hP
                  clear hP
                  obtain ⟨VA, ca, rfl, -, hca⟩ := Kd.R_reads hva
                  obtain ⟨TA, ct, rfl, -, hct⟩ := Kd.R_reads hvt
                  have CA := Aside0.mk hca
                  have CT := Aside0.mk (k34c_C hct)
                  clear hva hvt hca hct NB x1
                  have x1 := pw_cell_below HB.out X1.out
                  go_wp2_with fail
                  refine (refRun_calls A A1 c c1 l (rd_T50 ds i).f1 _ (Kd.C_below HL0.out HB.out) (Kd.C_below G1.out HB.out) HLL.out).mono ?_
                  rintro e w9 ⟨vb, vs, rfl, hvb, hvs, NB⟩
                  replace HB := Aside0.mk (HB.out.trans (NB.mono HB.out.size))
                  rw [HP.out] at hvb hvs
                  obtain ⟨VB, cb, rfl, -, hcb⟩ := Kd.R_reads hvb
                  obtain ⟨TB, cs, rfl, -, hcs⟩ := Kd.R_reads hvs
                  replace CA := Aside0.mk (Kd.C_below CA.out NB)
                  replace CT := Aside0.mk (Kd.C_below CT.out NB)
                  have CB := Aside0.mk hcb
                  have CS := Aside0.mk (k34c_C hcs)
                  have hmt := Kd.C_max CT.out
                  clear hvb hvs hcb hcs NB x1
                  go_wp2_with fail
                  refine (ref10_Same_calls VA VB ca cb P.1 P.1 _ CA.out CB.out).mono ?_
                  rintro e w10 ⟨⟨b, rfl, hbb⟩, NB⟩
                  obtain rfl : b = true := hbb.2 rfl
                  replace HB := Aside0.mk (HB.out.trans (NB.mono HB.out.size))
                  replace CT := Aside0.mk (Kd.C_below CT.out NB)
                  replace CS := Aside0.mk (Kd.C_below CS.out NB)
                  clear NB hbb CA CB
                  go_wp2_with fail
                  have HB10 := HB
                  clear HB
                  go_loopw [21] (fun v21 w' => ∃ j : Nat, j ≤ P.2.length ∧ v21 = .int .i64 j ∧ Aside0 (Below w10.heap.size w10 w')) (fun v21 _ => P.2.length - (intOf v21).toNat)
                  case atStart => exact ⟨0, by omega, rfl, ⟨Below.refl _ _⟩⟩
                  case round =>
                    obtain ⟨j, hj, rfl, HW⟩ := hrel
                    by_cases hjl : j < P.2.length
                    · obtain ⟨td, A6, c6, rfl, y0, y1, y2, y3, y4, y5, y6, yl, yg⟩ := at_T34 CT.out j (by omega) (by omega)
                      obtain ⟨ud, U6, d6, rfl, z0, z1, z2, z3, z4, z5, z6, zl, zg⟩ := at_T34 CS.out j (by omega) (by omega)
                      simp only [Int.toNat_natCast] at y0 y1 y2 y3 y4 y5 y6 z0 z1 z2 z3 z4 z5 z6
                      have Y0 := Aside0.mk y0
                      have Y1 := Aside0.mk y1
                      have Y2 := Aside0.mk y2
                      have Y3 := Aside0.mk y3
                      have Y4 := Aside0.mk y4
                      have Y5 := Aside0.mk y5
                      have Y6 := Aside0.mk y6
                      have Z0 := Aside0.mk z0
                      have Z1 := Aside0.mk z1
                      have Z2 := Aside0.mk z2
                      have Z3 := Aside0.mk z3
                      have Z4 := Aside0.mk z4
                      have Z5 := Aside0.mk z5
                      have Z6 := Aside0.mk z6
                      have X3 := Aside0.mk (pw_cell_below HB10.out X2.out)
                      have YG := Aside0.mk yg
                      have ZG := Aside0.mk zg
                      clear y0 y1 y2 y3 y4 y5 y6 z0 z1 z2 z3 z4 z5 z6 yl yg zl zg
                      have j1 : (j : Int) < (P.2.length : Int) := by omega
                      by_cases hjr : j < (rd_T50 ds i).f2.length
                      · obtain ⟨rd, B6, e6, rfl, q0, q1, q2, q3, q4, q5, q6, ql, qg⟩ := at_T34 G2.out j (by omega) (by omega)
                        simp only [Int.toNat_natCast] at q0 q1 q2 q3 q4 q5 q6
                        have Q0 := Aside0.mk (pw_cell_below HB10.out q0)
                        have Q1 := Aside0.mk (pw_cell_below HB10.out q1)
                        have Q2 := Aside0.mk (pw_cell_below HB10.out q2)
                        have Q3 := Aside0.mk (pw_cell_below HB10.out q3)
                        have Q4 := Aside0.mk (pw_cell_below HB10.out q4)
                        have Q5 := Aside0.mk (pw_cell_below HB10.out q5)
                        have Q6 := Aside0.mk (pw_cell_below HB10.out q6)
                        have QG := Aside0.mk (Kd.C_below qg HB10.out)
                        clear q0 q1 q2 q3 q4 q5 q6 ql qg
                        have j2 : (j : Int) < ((rd_T50 ds i).f2.length : Int) := by omega
                        have j3 : decide ((j : Int) < ((rd_T50 ds i).f2.length : Int)) = true := decide_eq_true j2
                        have j4 : decide (j < (rd_T50 ds i).f2.length) = true := decide_eq_true hjr
                        have HTR := Aside0.mk (alike_refl (rd_T34 P.2 j))
                        by_cases hv : alike (rd_T34 P.2 j) (rd_T34 (rd_T50 ds i).f2 j)
                        · have HV := Aside0.mk hv
                          clear hv
                          go_wp2_with fail
                          refine wp_region_flat (fun w' => Below w10.heap.size w10 w') (by kernel_rfl) (by kernel_rfl) (below_drew HW.out) ?_
                          iterate 9
                            (apply Flat.cons
                             · intro w' hS
                               have S2 := Aside0.mk hS
                               have y0 := pw_cell_below hS Y0.out
                               have y1 := pw_cell_below hS Y1.out
                               have y2 := pw_cell_below hS Y2.out
                               have y3 := pw_cell_below hS Y3.out
                               have y4 := pw_cell_below hS Y4.out
                               have y5 := pw_cell_below hS Y5.out
                               have y6 := pw_cell_below hS Y6.out
                               have z0 := pw_cell_below hS Z0.out
                               have z1 := pw_cell_below hS Z1.out
                               have z2 := pw_cell_below hS Z2.out
                               have z3 := pw_cell_below hS Z3.out
                               have z4 := pw_cell_below hS Z4.out
                               have z5 := pw_cell_below hS Z5.out
                               have z6 := pw_cell_below hS Z6.out
                               have q0 := pw_cell_below hS Q0.out
                               have q1 := pw_cell_below hS Q1.out
                               have q2 := pw_cell_below hS Q2.out
                               have q3 := pw_cell_below hS Q3.out
                               have q4 := pw_cell_below hS Q4.out
                               have q5 := pw_cell_below hS Q5.out
                               have q6 := pw_cell_below hS Q6.out
                               have x2 := pw_cell_below hS X3.out
                               clear hS
                               go_wp2_with (first | (go_at_call 14; refine (refSame_yes A6 U6 c6 d6 (rd_T34 P.2 j) (rd_T34 P.2 j) _ (Kd.C_below YG.out S2.out) (Kd.C_below ZG.out S2.out) HTR.out).mono ?_; rintro e w' ⟨rfl, hb⟩))
                               first
                               | exact flat_end rfl S2.out
                               | exact flat_end rfl (S2.out.trans (hb.mono S2.out.size))
                             · exact rfl)
                          iterate 40
                            (apply Flat.cons
                             · intro w' hS
                               have S2 := Aside0.mk hS
                               have y0 := pw_cell_below hS Y0.out
                               have y1 := pw_cell_below hS Y1.out
                               have y2 := pw_cell_below hS Y2.out
                               have y3 := pw_cell_below hS Y3.out
                               have y4 := pw_cell_below hS Y4.out
                               have y5 := pw_cell_below hS Y5.out
                               have y6 := pw_cell_below hS Y6.out
                               have z0 := pw_cell_below hS Z0.out
                               have z1 := pw_cell_below hS Z1.out
                               have z2 := pw_cell_below hS Z2.out
                               have z3 := pw_cell_below hS Z3.out
                               have z4 := pw_cell_below hS Z4.out
                               have z5 := pw_cell_below hS Z5.out
                               have z6 := pw_cell_below hS Z6.out
                               have q0 := pw_cell_below hS Q0.out
                               have q1 := pw_cell_below hS Q1.out
                               have q2 := pw_cell_below hS Q2.out
                               have q3 := pw_cell_below hS Q3.out
                               have q4 := pw_cell_below hS Q4.out
                               have q5 := pw_cell_below hS Q5.out
                               have q6 := pw_cell_below hS Q6.out
                               have x2 := pw_cell_below hS X3.out
                               clear hS
                               go_wp2_with (first | (go_at_call 14; refine (refSame_yes A6 B6 c6 e6 (rd_T34 P.2 j) (rd_T34 (rd_T50 ds i).f2 j) _ (Kd.C_below YG.out S2.out) (Kd.C_below QG.out S2.out) HV.out).mono ?_; rintro e w' ⟨rfl, hb⟩) | (go_at_call 15; refine (modelSame_yes A6 B6 c6 e6 (rd_T34 P.2 j) (rd_T34 (rd_T50 ds i).f2 j) _ (Kd.C_below YG.out S2.out) (Kd.C_below QG.out S2.out) HV.out).mono ?_; rintro e w' ⟨rfl, hb⟩))
                               first
                               | exact flat_end rfl S2.out
                               | exact flat_end rfl (S2.out.trans (hb.mono S2.out.size))
                             · exact rfl)
                          refine Flat.nil fun W2 hS => ?_
                          have HW2 := Aside0.mk hS
                          clear hS
                          go_wp2_with fail
                          go_roundw
                          case rel => exact ⟨j + 1, by omega, by go_num, HW2⟩
                          case measure => simp [intOf]; omega
                        · have HV := Aside0.mk hv
                          clear hv
                          go_wp2_with fail
                          refine wp_region_flat (fun w' => Below w10.heap.size w10 w') (by kernel_rfl) (by kernel_rfl) (below_drew HW.out) ?_
                          iterate 9
                            (apply Flat.cons
                             · intro w' hS
                               have S2 := Aside0.mk hS
                               have y0 := pw_cell_below hS Y0.out
                               have y1 := pw_cell_below hS Y1.out
                               have y2 := pw_cell_below hS Y2.out
                               have y3 := pw_cell_below hS Y3.out
                               have y4 := pw_cell_below hS Y4.out
                               have y5 := pw_cell_below hS Y5.out
                               have y6 := pw_cell_below hS Y6.out
                               have z0 := pw_cell_below hS Z0.out
                               have z1 := pw_cell_below hS Z1.out
                               have z2 := pw_cell_below hS Z2.out
                               have z3 := pw_cell_below hS Z3.out
                               have z4 := pw_cell_below hS Z4.out
                               have z5 := pw_cell_below hS Z5.out
                               have z6 := pw_cell_below hS Z6.out
                               have q0 := pw_cell_below hS Q0.out
                               have q1 := pw_cell_below hS Q1.out
                               have q2 := pw_cell_below hS Q2.out
                               have q3 := pw_cell_below hS Q3.out
                               have q4 := pw_cell_below hS Q4.out
                               have q5 := pw_cell_below hS Q5.out
                               have q6 := pw_cell_below hS Q6.out
                               have x2 := pw_cell_below hS X3.out
                               clear hS
                               go_wp2_with (first | (go_at_call 14; refine (refSame_yes A6 U6 c6 d6 (rd_T34 P.2 j) (rd_T34 P.2 j) _ (Kd.C_below YG.out S2.out) (Kd.C_below ZG.out S2.out) HTR.out).mono ?_; rintro e w' ⟨rfl, hb⟩))
                               first
                               | exact flat_end rfl S2.out
                               | exact flat_end rfl (S2.out.trans (hb.mono S2.out.size))
                             · exact rfl)
                          iterate 40
                            (apply Flat.cons
                             · intro w' hS
                               have S2 := Aside0.mk hS
                               have y0 := pw_cell_below hS Y0.out
                               have y1 := pw_cell_below hS Y1.out
                               have y2 := pw_cell_below hS Y2.out
                               have y3 := pw_cell_below hS Y3.out
                               have y4 := pw_cell_below hS Y4.out
                               have y5 := pw_cell_below hS Y5.out
                               have y6 := pw_cell_below hS Y6.out
                               have z0 := pw_cell_below hS Z0.out
                               have z1 := pw_cell_below hS Z1.out
                               have z2 := pw_cell_below hS Z2.out
                               have z3 := pw_cell_below hS Z3.out
                               have z4 := pw_cell_below hS Z4.out
                               have z5 := pw_cell_below hS Z5.out
                               have z6 := pw_cell_below hS Z6.out
                               have q0 := pw_cell_below hS Q0.out
                               have q1 := pw_cell_below hS Q1.out
                               have q2 := pw_cell_below hS Q2.out
                               have q3 := pw_cell_below hS Q3.out
                               have q4 := pw_cell_below hS Q4.out
                               have q5 := pw_cell_below hS Q5.out
                               have q6 := pw_cell_below hS Q6.out
                               have x2 := pw_cell_below hS X3.out
                               clear hS
                               go_wp2_with (first | (go_at_call 14; refine (refSame_not A6 B6 c6 e6 (rd_T34 P.2 j) (rd_T34 (rd_T50 ds i).f2 j) _ (Kd.C_below YG.out S2.out) (Kd.C_below QG.out S2.out) HV.out).mono ?_; rintro e w' ⟨rfl, hb⟩) | (go_at_call 15; refine (modelSame_not A6 B6 c6 e6 (rd_T34 P.2 j) (rd_T34 (rd_T50 ds i).f2 j) _ (Kd.C_below YG.out S2.out) (Kd.C_below QG.out S2.out) HV.out).mono ?_; rintro e w' ⟨rfl, hb⟩))
                               first
                               | exact flat_end rfl S2.out
                               | exact flat_end rfl (S2.out.trans (hb.mono S2.out.size))
                             · exact rfl)
                          refine Flat.nil fun W2 hS => ?_
                          have HW2 := Aside0.mk hS
                          clear hS
                          go_wp2_with fail
                          go_roundw
                          case rel => exact ⟨j + 1, by omega, by go_num, HW2⟩
                          case measure => simp [intOf]; omega
                      · have HTR := Aside0.mk (alike_refl (rd_T34 P.2 j))
                        have j2 : decide ((j : Int) < ((rd_T50 ds i).f2.length : Int)) = false := decide_eq_false (by omega)
                        have j3 : decide (j < (rd_T50 ds i).f2.length) = false := decide_eq_false (by omega)
                        clear hjr
                        go_wp2_with fail
                        refine wp_region_flat (fun w' => Below w10.heap.size w10 w') (by kernel_rfl) (by kernel_rfl) (below_drew HW.out) ?_
                        iterate 9
                          (apply Flat.cons
                           · intro w' hS
                             have S2 := Aside0.mk hS
                             have y0 := pw_cell_below hS Y0.out
                             have y1 := pw_cell_below hS Y1.out
                             have y2 := pw_cell_below hS Y2.out
                             have y3 := pw_cell_below hS Y3.out
                             have y4 := pw_cell_below hS Y4.out
                             have y5 := pw_cell_below hS Y5.out
                             have y6 := pw_cell_below hS Y6.out
                             have z0 := pw_cell_below hS Z0.out
                             have z1 := pw_cell_below hS Z1.out
                             have z2 := pw_cell_below hS Z2.out
                             have z3 := pw_cell_below hS Z3.out
                             have z4 := pw_cell_below hS Z4.out
                             have z5 := pw_cell_below hS Z5.out
                             have z6 := pw_cell_below hS Z6.out
                             have x2 := pw_cell_below hS X3.out
                             clear hS
                             go_wp2_with (first | (go_at_call 14; refine (refSame_yes A6 U6 c6 d6 (rd_T34 P.2 j) (rd_T34 P.2 j) _ (Kd.C_below YG.out S2.out) (Kd.C_below ZG.out S2.out) HTR.out).mono ?_; rintro e w' ⟨rfl, hb⟩))
                             first
                             | exact flat_end rfl S2.out
                             | exact flat_end rfl (S2.out.trans (hb.mono S2.out.size))
                           · exact rfl)
                        iterate 40
                          (apply Flat.cons
                           · intro w' hS
                             have S2 := Aside0.mk hS
                             have y0 := pw_cell_below hS Y0.out
                             have y1 := pw_cell_below hS Y1.out
                             have y2 := pw_cell_below hS Y2.out
                             have y3 := pw_cell_below hS Y3.out
                             have y4 := pw_cell_below hS Y4.out
                             have y5 := pw_cell_below hS Y5.out
                             have y6 := pw_cell_below hS Y6.out
                             have z0 := pw_cell_below hS Z0.out
                             have z1 := pw_cell_below hS Z1.out
                             have z2 := pw_cell_below hS Z2.out
                             have z3 := pw_cell_below hS Z3.out
                             have z4 := pw_cell_below hS Z4.out
                             have z5 := pw_cell_below hS Z5.out
                             have z6 := pw_cell_below hS Z6.out
                             have x2 := pw_cell_below hS X3.out
                             clear hS
                             go_wp2_with (first | (fail))
                             first
                             | exact flat_end rfl S2.out
                             | exact flat_end rfl (S2.out.trans (hb.mono S2.out.size))
                           · exact rfl)
                        refine Flat.nil fun W2 hS => ?_
                        have HW2 := Aside0.mk hS
                        clear hS
                        go_wp2_with fail
                        go_roundw
                        case rel => exact ⟨j + 1, by omega, by go_num, HW2⟩
                        case measure => simp [intOf]; omega
                    · obtain rfl : j = P.2.length := by omega
                      clear hjl
                      have HB := Aside0.mk (HB10.out.trans (HW.out.mono HB10.out.size))
                      go_wp2_with fail
                      go_roundw
                      case rel => exact ⟨i + 1, by omega, by go_num, HB⟩
                      case measure => simp [intOf]; omega
                · obtain rfl : i = ds.length := by omega
                  clear hlt
                  go_wp2_with fail
                  refine (head_calls _).mono ?_
                  rintro e wh ⟨rfl, hb⟩
                  go_wp2_with fail
                  go_ret
                  exact ⟨rfl, HB.out.trans (hb.mono HB.out.size)⟩
end Go.Proofs.Ytcnmefocbjilbaa.G
namespace Go.Proofs.Ytcnmefocbjilbaa.ModelRunsRow
open Go.ChangeShapes Go.WideShapes Go.ChangeAt Go.RowKit Go.Proofs.YtcnmefocbjilbaaW.PrintWords
open Go.ChangeMaps (open_string shut_string)
theorem own : ownKnob Try.prog.godebug = none := by kernel_rfl
theorem laidOut : laidOutB Try.prog = true := by kernel_rfl
set_option maxRecDepth 100000 in
theorem lifted (os : Os) (started : os.Started) (H : Type) (enc : TypeId × Value → H) :
    ReturnsInHanded {} Try.checked os 5 .any (Rows.modelRunsSpec.pre6 enc Try.prog Try.f5 Rows.modelRunsRow.domain false) (Rows.modelRunsSpec.post enc Try.prog Try.f5 false true false false) := by
  refine returnsInHanded_of_change_sized (C := Try.checked) own started (by kernel_rfl) Try.func5
    (ChangeSpec.witness6 (enc := enc) (C := Try.checked) false ⟨#[], #[.slice none 0 0, .slice none 0 0, .slice none 0 0], []⟩ 8 (by kernel_rfl) (by kernel_rfl) (by kernel_rfl) (by kernel_rfl)) ?_
  intro W base args ds gs before hval0 hW hcnd hsz0 _
  have hval : ∀ (j : Nat) t v, Try.f5.params[j]? = some t → args[j]? = some v → Value.okWide Try.prog W .any base t v := hval0
  have hW' := hW
  obtain ⟨p, q, hA0, hV, rfl, hfz, hnd⟩ := hW
  have hA : DataW.TrodAll enc Try.prog W 0 (fun _ => true) true Try.f5.params.toList args.toList ds p := hA0
  rw [Try.params5] at hA hval
  obtain ⟨v0, vs0, d0, ds0, p0, q0, hargs, rfl, rfl, h0, r0⟩ := trodAll_cons hA
  obtain ⟨v1, vs1, d1, ds1, p1, q1, rfl, rfl, rfl, h1, r1⟩ := trodAll_cons r0
  obtain ⟨v2, vs2, d2, ds2, p2, q2, rfl, rfl, rfl, h2, r2⟩ := trodAll_cons r1
  obtain ⟨rfl, rfl, rfl⟩ := trodAll_nil r2
  obtain rfl : args = #[v0, v1, v2] := by cases args; simp_all
  obtain ⟨rfl, rfl⟩ := trodVars_none hV
  have k0 := h0
  have lt0 : ∀ x ∈ p0, x.block < W.heap.size := by obtain ⟨m, hm⟩ := k0; exact DataW.trod_lt m _ _ _ hm
  have k1 := h1
  have lt1 : ∀ x ∈ p1, x.block < W.heap.size := by obtain ⟨m, hm⟩ := k1; exact DataW.trod_lt m _ _ _ hm
  have k2 := h2
  have lt2 : ∀ x ∈ p2, x.block < W.heap.size := by obtain ⟨m, hm⟩ := k2; exact DataW.trod_lt m _ _ _ hm
  obtain ⟨A, n, c, rfl⟩ := okWide_slice Try.underlying22 (hval 0 22 v0 rfl rfl)
  obtain ⟨l, rfl, hcl, HR⟩ : ∃ l : List G.S40, n = l.length ∧ l.length ≤ c ∧ Kd.C G.k40 W A l.length l := G.open_cells h0
  obtain ⟨A1, n1, c1, rfl⟩ := okWide_slice Try.underlying22 (hval 1 22 v1 rfl rfl)
  obtain ⟨m, rfl, hcm, HM⟩ : ∃ m : List G.S40, n1 = m.length ∧ m.length ≤ c1 ∧ Kd.C G.k40 W A1 m.length m := G.open_cells h1
  obtain ⟨A2, n2, c2, rfl⟩ := okWide_slice Try.underlying45 (hval 2 45 v2 rfl rfl)
  obtain ⟨ds, rfl, hcd, HD⟩ : ∃ ds : List G.S50, n2 = ds.length ∧ ds.length ≤ c2 ∧ Kd.C G.k50 W A2 ds.length ds := G.open_deeds h2
  clear hA0 hval0 hsz0
  refine (G.Runs_calls A A1 A2 c c1 c2 l m ds W HR HM HD hcl).mono fun e W' ⟨he, bel⟩ => ?_
  subst he
  exact ⟨_, rfl, _, _, _, [], _, [], hW', trodAll_mk1 (shut_bool Try.underlying4 _), (trodAll_cons_mk (Below.trod laidOut (by kernel_rfl) (of_decide_eq_true (by kernel_rfl)) k0 bel lt0) (trodAll_cons_mk (Below.trod laidOut (by kernel_rfl) (of_decide_eq_true (by kernel_rfl)) k1 bel lt1) (trodAll_cons_mk (Below.trod laidOut (by kernel_rfl) (of_decide_eq_true (by kernel_rfl)) k2 bel lt2) trodAll_mk0))), rfl, bel.frame _, fun h => by cases h⟩
theorem over : Rows.modelRunsRow.holds Try.pinned (OpenSpec.ofChange Rows.modelRunsSpec) :=
  OpenClaim.holds_of_wide 5 Try.f5 rfl rfl rfl rfl rfl rfl rfl ⟨rfl, rfl, rfl, rfl, rfl⟩ rfl rfl rfl rfl rfl (by kernel_rfl) Try.func5 (by kernel_rfl)
    (of_decide_eq_true (by kernel_rfl)) (by unfold Func.isWrapper; first | (rw [if_pos (by decide +kernel)]; kernel_rfl) | (rw [if_neg (by decide +kernel)]; exact ⟨rfl, rfl⟩))
    (fun os started H enc _ => lifted os started H enc)
theorem proved : Rows.ModelRunsSaid := over
end Go.Proofs.Ytcnmefocbjilbaa.ModelRunsRow
namespace Go.Proofs.Ytcnmefocbjilbaa
/-- The row, under a short name, for the claim. -/
theorem modelRuns_holds : Rows.ModelRunsSaid := ModelRunsRow.proved
end Go.Proofs.Ytcnmefocbjilbaa
