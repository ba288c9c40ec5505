/- Part of the seat's claims: lockkeeperlaw30.ModelDoes answers true for every row of cells and every call (no condition). -/
import Derived.Test.YtcnmefocbjilbaaM4
import Derived.Test.YtcnmefocbjilbaaRows
import Derived.Test.YtcnmefocbjilbaaM3
import Derived.WalkKit
import Derived.ProofKit
import Derived.OpenShut
import Derived.ShutString
import Derived.ChangeOld
import Derived.Below
import Derived.SizedLaws
set_option linter.unusedVariables false
set_option linter.unusedSimpArgs false
namespace Go.Proofs.Ytcnmefocbjilbaa.G
open Go.RowKit Go.Proofs.YtcnmefocbjilbaaW.PrintWords Go.Proofs.YtcnmefocbjilbaaW.PrintLast Go.Proofs.YtcnmefocbjilbaaW.PrintMore
open Go.Proofs.YtcnmefocbjilbaaFlat
set_option maxHeartbeats 2000000
set_option maxRecDepth 20000

theorem doS_fixed (l : List S40) (x : S26) : (doS l x).2.f0 = 0 ∧ (doS l x).2.f1 = x.f0 ∧ (doS l x).2.f3 = 0 := by
  unfold doS
  repeat (first | exact ⟨rfl, rfl, rfl⟩ | split)
theorem Does_calls (A : Option Addr) (c : Nat) (l : List S40) (x : S26) (w : World) (HR : Kd.C k40 w A l.length l) (hc : l.length ≤ c) :
    Calls Try.prog 3 #[.slice A l.length c, .agg (cellsC x)] w (TruePost w) := by
  have HR0 := Aside0.mk HR
  clear HR
  unfold cellsC
  have HBox := Aside0.mk (below_alloc (Below.refl w.heap.size w) (.cells #[.int .u8 x.f0, .string x.f1, .string x.f2, .string x.f3.f0, .string x.f3.f1, .bool x.f3.f2, .int .i64 x.f4] 26 (0, 0)))
  have HX := Aside0.mk (heap_new w (.cells #[.int .u8 x.f0, .string x.f1, .string x.f2, .string x.f3.f0, .string x.f3.f1, .bool x.f3.f2, .int .i64 x.f4] 26 (0, 0)))
  go_enter Try.func3, Try.ntmps3
  go_wp2_with fail
  refine (great_calls A c l _ (Kd.C_below HR0.out HBox.out)).mono ?_
  rintro e w1 ⟨⟨bg, rfl, hbg⟩, hb⟩
  have HB1 := Aside0.mk (HBox.out.trans (hb.mono HBox.out.size))
  have HX := Aside0.mk (blk_below HX.out hb)
  clear hb
  have HBG := Aside0.mk hbg
  clear hbg
  have x0 := (blk_cell HX.out 0).trans rfl
  have x1 := (blk_cell HX.out 1).trans rfl
  have x2 := (blk_cell HX.out 2).trans rfl
  have x3 := (blk_cell HX.out 3).trans rfl
  have x4 := (blk_cell HX.out 4).trans rfl
  have x5 := (blk_cell HX.out 5).trans rfl
  have x6 := (blk_cell HX.out 6).trans rfl
  cases bg with
  | true =>
    go_wp2_with fail
    refine (head_calls _).mono ?_
    rintro e w2 ⟨rfl, hb⟩
    go_wp2
    go_ret
    exact ⟨rfl, HB1.out.trans (hb.mono HB1.out.size)⟩
  | false =>
    have h40 := HBG.out rfl
    go_wp2_with fail
    refine (Small_calls x _).mono ?_
    rintro e w2 ⟨⟨bs, rfl⟩, hb⟩
    have HB2 := Aside0.mk (HB1.out.trans (hb.mono HB1.out.size))
    have HX := Aside0.mk (blk_below HX.out hb)
    clear hb x0 x1 x2 x3 x4 x5 x6
    cases bs with
    | false =>
      go_wp2_with fail
      refine (head_calls _).mono ?_
      rintro e w3 ⟨rfl, hb⟩
      go_wp2
      go_ret
      exact ⟨rfl, HB2.out.trans (hb.mono HB2.out.size)⟩
    | true =>
      have x0 := (blk_cell HX.out 0).trans rfl
      have x1 := (blk_cell HX.out 1).trans rfl
      have x2 := (blk_cell HX.out 2).trans rfl
      have x3 := (blk_cell HX.out 3).trans rfl
      have x4 := (blk_cell HX.out 4).trans rfl
      have x5 := (blk_cell HX.out 5).trans rfl
      have x6 := (blk_cell HX.out 6).trans rfl
      go_wp2_with fail
      refine (Copy_calls A c l _ (Kd.C_below HR0.out HB2.out) (by omega)).mono ?_
      rintro e w3 ⟨v3, rfl, ho3, hb⟩
      obtain ⟨VO, vo, rfl, hvo, hC3⟩ := Kd.R_reads ho3
      have HB3 := Aside0.mk (HB2.out.trans (hb.mono HB2.out.size))
      have HX := Aside0.mk (blk_below HX.out hb)
      have HC3 := Aside0.mk hC3
      have HC30 := Aside0.mk hC3
      have HB30 := HB3
      clear hb ho3 hC3 x0 x1 x2 x3 x4 x5 x6
      have x0 := (blk_cell HX.out 0).trans rfl
      have x1 := (blk_cell HX.out 1).trans rfl
      have x2 := (blk_cell HX.out 2).trans rfl
      have x3 := (blk_cell HX.out 3).trans rfl
      have x4 := (blk_cell HX.out 4).trans rfl
      have x5 := (blk_cell HX.out 5).trans rfl
      have x6 := (blk_cell HX.out 6).trans rfl
      go_wp2_with fail
      refine (Do_calls VO vo l x _ HC3.out hvo (by omega)).mono ?_
      rintro e w4 ⟨va, vc, rfl, hva, hvc, hap, hb⟩
      have e0 : (doS l x).2.f0 = 0 ∧ (doS l x).2.f1 = x.f0 ∧ (doS l x).2.f3 = 0 := doS_fixed l x
      generalize hP : doS l x = P at hva hvc e0 ⊢
      have HP := Aside0.mk hP
      clear hP
      obtain ⟨A4, n4, rfl, hn4, cap4, ho4⟩ := hvc
      obtain ⟨VA, ca, rfl⟩ := Kd.R_slice hva
      have NB := below_alloc hb (.cells #[.int .i64 0, .int .u8 x.f0, .int .i64 P.2.f2, .int .u64 0, .bool P.2.f4, .string P.2.f5, .slice A4 P.2.f6.length n4] 34 (0, 0))
      have HT := Aside0.mk (show Tn w3.heap.size w4.heap.size w3 (w4.alloc (.cells #[.int .i64 0, .int .u8 x.f0, .int .i64 P.2.f2, .int .u64 0, .bool P.2.f4, .string P.2.f5, .slice A4 P.2.f6.length n4] 34 (0, 0))) (.slice VA P.1.length ca) P.1.length #[.int .i64 0, .int .u8 x.f0, .int .i64 P.2.f2, .int .u64 0, .bool P.2.f4, .string P.2.f5, .slice A4 P.2.f6.length n4] (.slice A4 P.2.f6.length cap4) P.2.f6.length from ⟨NB, ⟨P.1, rfl, Kd.R_alloc hva _⟩, ⟨P.2.f6, rfl, Kd.R_alloc ho4 _⟩, heap_new w4 _, NB.size⟩)
      have CA := Aside0.mk (Kd.C_alloc (Kd.R_reads' hva).2.2 (.cells #[.int .i64 0, .int .u8 x.f0, .int .i64 P.2.f2, .int .u64 0, .bool P.2.f4, .string P.2.f5, .slice A4 P.2.f6.length n4] 34 (0, 0)))
      have CC := Aside0.mk (Kd.C_alloc (Kd.R_reads' ho4).2.2 (.cells #[.int .i64 0, .int .u8 x.f0, .int .i64 P.2.f2, .int .u64 0, .bool P.2.f4, .string P.2.f5, .slice A4 P.2.f6.length n4] 34 (0, 0)))
      have HC3 := Aside0.mk (Kd.C_below HC3.out NB)
      have HB4 := Aside0.mk (HB3.out.trans (NB.mono HB3.out.size))
      have HX := Aside0.mk (blk_below HX.out NB)
      have HAP := Aside0.mk hap
      clear hb hva ho4 NB hap x0 x1 x2 x3 x4 x5 x6
      have x0 := (blk_cell HX.out 0).trans rfl
      have x1 := (blk_cell HX.out 1).trans rfl
      have x2 := (blk_cell HX.out 2).trans rfl
      have x3 := (blk_cell HX.out 3).trans rfl
      have x4 := (blk_cell HX.out 4).trans rfl
      have x5 := (blk_cell HX.out 5).trans rfl
      have x6 := (blk_cell HX.out 6).trans rfl
      go_wp2_with fail
      refine (refDo_calls A c l x _ (Kd.C_below HR0.out HB4.out) (by omega)).mono ?_
      rintro e w5 ⟨vb, vd, rfl, hvb, hvd, -, hb⟩
      rw [HP.out] at hvb hvd ⊢
      obtain ⟨A5, n5, rfl, hn5, cap5, ho5⟩ := hvd
      obtain ⟨VB, cb, rfl⟩ := Kd.R_slice hvb
      have NB := below_alloc hb (.cells #[.int .i64 0, .int .u8 x.f0, .int .i64 P.2.f2, .int .u64 0, .bool P.2.f4, .string P.2.f5, .slice A5 P.2.f6.length n5] 34 (0, 0))
      have HT := Aside0.mk (HT.out.mv NB)
      have CA := Aside0.mk (Kd.C_below CA.out NB)
      have CC := Aside0.mk (Kd.C_below CC.out NB)
      have HC3 := Aside0.mk (Kd.C_below HC3.out NB)
      have HB5 := Aside0.mk (HB4.out.trans (NB.mono HB4.out.size))
      have CB := Aside0.mk (Kd.C_alloc (Kd.R_reads' hvb).2.2 (.cells #[.int .i64 0, .int .u8 x.f0, .int .i64 P.2.f2, .int .u64 0, .bool P.2.f4, .string P.2.f5, .slice A5 P.2.f6.length n5] 34 (0, 0)))
      have CD := Aside0.mk (Kd.C_alloc (Kd.R_reads' ho5).2.2 (.cells #[.int .i64 0, .int .u8 x.f0, .int .i64 P.2.f2, .int .u64 0, .bool P.2.f4, .string P.2.f5, .slice A5 P.2.f6.length n5] 34 (0, 0)))
      have R9 := Aside0.mk (heap_new w5 (.cells #[.int .i64 0, .int .u8 x.f0, .int .i64 P.2.f2, .int .u64 0, .bool P.2.f4, .string P.2.f5, .slice A5 P.2.f6.length n5] 34 (0, 0)))
      clear hb hvb ho5 NB x0 x1 x2 x3 x4 x5 x6
      go_wp2_with fail
      refine (ref10_Same_calls VA VB ca cb P.1 P.1 _ CA.out CB.out).mono ?_
      rintro e w6 ⟨⟨b, rfl, hbb⟩, NB⟩
      obtain rfl : b = true := hbb.2 rfl
      have HT := Aside0.mk (HT.out.mv NB)
      have CC := Aside0.mk (Kd.C_below CC.out NB)
      have CD := Aside0.mk (Kd.C_below CD.out NB)
      have HC3 := Aside0.mk (Kd.C_below HC3.out NB)
      have HB6 := Aside0.mk (HB5.out.trans (NB.mono HB5.out.size))
      have R9 := Aside0.mk (blk_below R9.out NB)
      clear NB hbb
      have r0 := (blk_cell HT.out.r 0).trans rfl
      have q0 := (blk_cell R9.out 0).trans rfl
      have r1 := (blk_cell HT.out.r 1).trans rfl
      have q1 := (blk_cell R9.out 1).trans rfl
      have r2 := (blk_cell HT.out.r 2).trans rfl
      have q2 := (blk_cell R9.out 2).trans rfl
      have r3 := (blk_cell HT.out.r 3).trans rfl
      have q3 := (blk_cell R9.out 3).trans rfl
      have r4 := (blk_cell HT.out.r 4).trans rfl
      have q4 := (blk_cell R9.out 4).trans rfl
      have r5 := (blk_cell HT.out.r 5).trans rfl
      have q5 := (blk_cell R9.out 5).trans rfl
      have r6 := (blk_cell HT.out.r 6).trans rfl
      have q6 := (blk_cell R9.out 6).trans rfl
      go_wp2_with fail
      refine (refSame_calls A4 A5 n4 n5 ⟨0, x.f0, P.2.f2, 0, P.2.f4, P.2.f5, P.2.f6⟩ ⟨0, x.f0, P.2.f2, 0, P.2.f4, P.2.f5, P.2.f6⟩ _ CC.out CD.out).mono ?_
      rintro e w7 ⟨⟨b, rfl, hbb⟩, NB⟩
      obtain rfl : b = true := hbb.2 ⟨rfl, rfl, rfl, rfl, rfl⟩
      have HT := Aside0.mk (HT.out.mv NB)
      have CC := Aside0.mk (Kd.C_below CC.out NB)
      have CD := Aside0.mk (Kd.C_below CD.out NB)
      have HC3 := Aside0.mk (Kd.C_below HC3.out NB)
      have HB7 := Aside0.mk (HB6.out.trans (NB.mono HB6.out.size))
      have R9 := Aside0.mk (blk_below R9.out NB)
      clear NB hbb r0 r1 r2 r3 r4 r5 r6 q0 q1 q2 q3 q4 q5 q6
      have r0 := (blk_cell HT.out.r 0).trans rfl
      have q0 := (blk_cell R9.out 0).trans rfl
      have r1 := (blk_cell HT.out.r 1).trans rfl
      have q1 := (blk_cell R9.out 1).trans rfl
      have r2 := (blk_cell HT.out.r 2).trans rfl
      have q2 := (blk_cell R9.out 2).trans rfl
      have r3 := (blk_cell HT.out.r 3).trans rfl
      have q3 := (blk_cell R9.out 3).trans rfl
      have r4 := (blk_cell HT.out.r 4).trans rfl
      have q4 := (blk_cell R9.out 4).trans rfl
      have r5 := (blk_cell HT.out.r 5).trans rfl
      have q5 := (blk_cell R9.out 5).trans rfl
      have r6 := (blk_cell HT.out.r 6).trans rfl
      have q6 := (blk_cell R9.out 6).trans rfl
      go_wp2_with fail
      refine (modelSame_calls A4 A5 n4 n5 ⟨0, x.f0, P.2.f2, 0, P.2.f4, P.2.f5, P.2.f6⟩ ⟨0, x.f0, P.2.f2, 0, P.2.f4, P.2.f5, P.2.f6⟩ _ CC.out CD.out).mono ?_
      rintro e w8 ⟨⟨b, rfl, hbb⟩, NB⟩
      obtain rfl : b = true := hbb.2 ⟨rfl, rfl, rfl, rfl, rfl⟩
      have HT := Aside0.mk (HT.out.mv NB)
      have HC3 := Aside0.mk (Kd.C_below HC3.out NB)
      have HB8 := Aside0.mk (HB7.out.trans (NB.mono HB7.out.size))
      have hmA := Kd.C_max CA.out
      have hmC := Kd.C_max CC.out
      clear NB hbb r0 r1 r2 r3 r4 r5 r6 q0 q1 q2 q3 q4 q5 q6 CC CD R9 CA CB
      go_wp2_with fail
      go_loopw [10] (fun v10 w' => ∃ k : Nat, k ≤ P.1.length ∧ v10 = .int .i64 k ∧ Aside0 (Tn w3.heap.size w4.heap.size w3 w' (.slice VA P.1.length ca) P.1.length #[.int .i64 0, .int .u8 x.f0, .int .i64 P.2.f2, .int .u64 0, .bool P.2.f4, .string P.2.f5, .slice A4 P.2.f6.length n4] (.slice A4 P.2.f6.length cap4) P.2.f6.length)) (fun v10 _ => P.1.length - (intOf v10).toNat)
      case atStart => exact ⟨0, by omega, rfl, HT⟩
      case round =>
        obtain ⟨k, hk, rfl, HW⟩ := hrel
        by_cases hlt : k < P.1.length
        · obtain ⟨g, rfl⟩ : ∃ g, VA = some ⟨g, 0, none⟩ := by
            obtain ⟨la, e1, h1⟩ := HW.out.a
            obtain ⟨g, cap, e, _⟩ := Kd.R_form h1 (by omega)
            injection e with e2 _ _
            exact ⟨g, e2⟩
          obtain ⟨ht, ⟨u, hu⟩, hf⟩ := HW.out.turnA (fun e => HAP.out g rfl (by cases A4 <;> exact e)) k hlt ⟨#[116, 117, 114, 110, 101, 100]⟩
          have HT2 := Aside0.mk ht
          clear ht
          have hlt' : (k : Int) < (P.1.length : Int) := by omega
          go_wp2_with fail
          go_roundw
          case rel => exact ⟨k + 1, by omega, by go_num, HT2⟩
          case measure => simp [intOf]; omega
        · obtain rfl : k = P.1.length := by omega
          clear hlt
          go_wp2_with fail
          go_loopw [11] (fun v11 w' => ∃ k : Nat, k ≤ P.2.f6.length ∧ v11 = .int .i64 k ∧ Aside0 (Tn w3.heap.size w4.heap.size w3 w' (.slice VA P.1.length ca) P.1.length #[.int .i64 0, .int .u8 x.f0, .int .i64 P.2.f2, .int .u64 0, .bool P.2.f4, .string P.2.f5, .slice A4 P.2.f6.length n4] (.slice A4 P.2.f6.length cap4) P.2.f6.length)) (fun v11 _ => P.2.f6.length - (intOf v11).toNat)
          case atStart => exact ⟨0, by omega, rfl, HW⟩
          case round =>
            obtain ⟨k, hk, rfl, HW⟩ := hrel
            have r6 := (blk_cell HW.out.r 6).trans rfl
            by_cases hlt : k < P.2.f6.length
            · obtain ⟨g, rfl⟩ : ∃ g, A4 = some ⟨g, 0, none⟩ := by
                obtain ⟨lc, e1, h1⟩ := HW.out.c
                obtain ⟨g, cap, e, _⟩ := Kd.R_form h1 (by omega)
                injection e with e2 _ _
                exact ⟨g, e2⟩
              obtain ⟨ht, ⟨u, hu⟩, hf⟩ := HW.out.turnC (fun e => HAP.out g e rfl) k hlt ⟨#[116, 117, 114, 110, 101, 100]⟩
              have HT2 := Aside0.mk ht
              clear ht
              have hlt' : (k : Int) < (P.2.f6.length : Int) := by omega
              go_wp2_with fail
              go_roundw
              case rel => exact ⟨k + 1, by omega, by go_num, HT2⟩
              case measure => simp [intOf]; omega
            · obtain rfl : k = P.2.f6.length := by omega
              clear hlt
              have HBW := Aside0.mk (HB30.out.trans (HW.out.below.mono HB30.out.size))
              go_wp2_with fail
              refine (ref10_Same_calls VO A vo c l l _ (Kd.C_below HC30.out HW.out.below) (Kd.C_below HR0.out HBW.out)).mono ?_
              rintro e w9 ⟨⟨b, rfl, hbb⟩, NB⟩
              obtain rfl : b = true := hbb.2 rfl
              have HB9 := Aside0.mk (HBW.out.trans (NB.mono HBW.out.size))
              clear NB hbb r6
              go_wp2_with fail
              refine (head_calls _).mono ?_
              rintro e w10 ⟨rfl, NB⟩
              go_wp2
              go_ret
              exact ⟨rfl, HB9.out.trans (NB.mono HB9.out.size)⟩
end Go.Proofs.Ytcnmefocbjilbaa.G
namespace Go.Proofs.Ytcnmefocbjilbaa.DoesRow
open Go.ChangeShapes Go.WideShapes Go.ChangeAt Go.RowKit Go.Proofs.YtcnmefocbjilbaaW.PrintWords
open Go.ChangeMaps (open_string shut_string)
theorem own : ownKnob Try.prog.godebug = none := by kernel_rfl
theorem laidOut : laidOutB Try.prog = true := by kernel_rfl
set_option maxRecDepth 100000 in
theorem lifted (os : Os) (started : os.Started) (H : Type) (enc : TypeId × Value → H) :
    ReturnsInHanded {} Try.checked os 3 .any (Rows.modelDoesSpec.pre6 enc Try.prog Try.f3 Rows.modelDoesRow.domain false) (Rows.modelDoesSpec.post enc Try.prog Try.f3 false true false false) := by
  refine returnsInHanded_of_change_sized (C := Try.checked) own started (by kernel_rfl) Try.func3
    (ChangeSpec.witness6 (enc := enc) (C := Try.checked) false ⟨#[], #[.slice none 0 0, .agg #[.int .u8 0, .string ByteArray.empty, .string ByteArray.empty, .string ByteArray.empty, .string ByteArray.empty, .bool false, .int .i64 0]], []⟩ 8 (by kernel_rfl) (by kernel_rfl) (by kernel_rfl) (by kernel_rfl)) ?_
  intro W base args ds gs before hval0 hW hcnd hsz0 _
  have hval : ∀ (j : Nat) t v, Try.f3.params[j]? = some t → args[j]? = some v → Value.okWide Try.prog W .any base t v := hval0
  have hW' := hW
  obtain ⟨p, q, hA0, hV, rfl, hfz, hnd⟩ := hW
  have hA : DataW.TrodAll enc Try.prog W 0 (fun _ => true) true Try.f3.params.toList args.toList ds p := hA0
  rw [Try.params3] at hA hval
  obtain ⟨v0, vs0, d0, ds0, p0, q0, hargs, rfl, rfl, h0, r0⟩ := trodAll_cons hA
  obtain ⟨v1, vs1, d1, ds1, p1, q1, rfl, rfl, rfl, h1, r1⟩ := trodAll_cons r0
  obtain ⟨rfl, rfl, rfl⟩ := trodAll_nil r1
  obtain rfl : args = #[v0, v1] := by cases args; simp_all
  obtain ⟨rfl, rfl⟩ := trodVars_none hV
  have k0 := h0
  have lt0 : ∀ x ∈ p0, x.block < W.heap.size := by obtain ⟨m, hm⟩ := k0; exact DataW.trod_lt m _ _ _ hm
  have k1 := h1
  have lt1 : ∀ x ∈ p1, x.block < W.heap.size := by obtain ⟨m, hm⟩ := k1; exact DataW.trod_lt m _ _ _ hm
  obtain ⟨A, n, c, rfl⟩ := okWide_slice Try.underlying22 (hval 0 22 v0 rfl rfl)
  obtain ⟨l, rfl, hcl, HR⟩ : ∃ l : List G.S40, n = l.length ∧ l.length ≤ c ∧ Kd.C G.k40 W A l.length l := G.open_cells h0
  obtain ⟨x, rfl⟩ : ∃ x : G.S26, v1 = .agg (G.cellsC x) := G.open_call (hval 1 26 v1 rfl rfl) h1
  clear hA0 hval0 hsz0
  refine (G.Does_calls A c l x W HR hcl).mono fun e W' ⟨he, bel⟩ => ?_
  subst he
  exact ⟨_, rfl, _, _, _, [], _, [], hW', trodAll_mk1 (shut_bool Try.underlying4 _), (trodAll_cons_mk (Below.trod laidOut (by kernel_rfl) (of_decide_eq_true (by kernel_rfl)) k0 bel lt0) (trodAll_cons_mk (Below.trod laidOut (by kernel_rfl) (of_decide_eq_true (by kernel_rfl)) k1 bel lt1) trodAll_mk0)), rfl, bel.frame _, fun h => by cases h⟩
theorem over : Rows.modelDoesRow.holds Try.pinned (OpenSpec.ofChange Rows.modelDoesSpec) :=
  OpenClaim.holds_of_wide 3 Try.f3 rfl rfl rfl rfl rfl rfl rfl ⟨rfl, rfl, rfl, rfl, rfl⟩ rfl rfl rfl rfl rfl (by kernel_rfl) Try.func3 (by kernel_rfl)
    (of_decide_eq_true (by kernel_rfl)) (by unfold Func.isWrapper; first | (rw [if_pos (by decide +kernel)]; kernel_rfl) | (rw [if_neg (by decide +kernel)]; exact ⟨rfl, rfl⟩))
    (fun os started H enc _ => lifted os started H enc)
theorem proved : Rows.ModelDoesSaid := over
end Go.Proofs.Ytcnmefocbjilbaa.DoesRow
namespace Go.Proofs.Ytcnmefocbjilbaa
/-- The row, under a short name, for the claim. -/
theorem modelDoes_holds : Rows.ModelDoesSaid := DoesRow.proved
end Go.Proofs.Ytcnmefocbjilbaa
