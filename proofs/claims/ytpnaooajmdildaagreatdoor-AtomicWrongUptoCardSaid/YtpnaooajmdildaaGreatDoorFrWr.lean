/- Walks, printed by a program of this repository (wip/tool). -/
import Derived.Test.YtpnaooajmdildaaGreatDoorFrC
import Derived.Test.YtpnaooajmdildaaGreatDoorCards
import Derived.Test.YtpnaooajmdildaaGreatDoorTie
import Derived.SevenTiedAt
import Derived.Test.YtpnaooajmdildaaGreatDoorWrL
namespace Go.Proofs.YtpnaooajmdildaaGreatDoor
open Go.RowKit
open Go
attribute [local irreducible] wpList wpQuiet wpX Code.wp
set_option maxHeartbeats 1000000
set_option maxRecDepth 100000
set_option linter.unusedSimpArgs false
set_option linter.unusedVariables false

theorem wrong_law (p : Prog) (what much : UInt8) (t : Int) (w : World) (hp : IsProg p w) (hg : Glob w) :
    Calls Tryz.prog 8 #[.agg p.cells.toArray, bv what, bv much, iv t] w fun e w' => e = .returned (.bool true) ∧ Ext w w' := by
  have h := wrongF_spec p what much t w hp hg
  rw [wrong_true] at h
  exact h


open Go.ChangeShapes Go.WideShapes Go.ChangeAt Go.WideMaps Go.WideElems Go.RowKit
theorem atomicWrong_contract (H : Type) (enc : TypeId × Value → H) (W : World) (base : Nat) (args : Array Value) (ds gs : List (DataW H)) (before : List MemPlace)
    (hval : ∀ (j : Nat) t v, Tryz.f8.params[j]? = some t → args[j]? = some v → Value.okWide Tryz.prog W .any base t v)
    (hW : DataW.Whole enc Tryz.prog Tryz.f8.params.toList Rows.atomicWrongSpec.vars false W args.toList ds gs before) (hk : Rows.uptoSmall H (ds ++ gs) = true) (hL : laidMetH Tryz.prog laids W) :
    Calls Tryz.prog 8 args W fun e W' => ∃ v, e = .returned v ∧ Rows.atomicWrongSpec.post enc Tryz.prog Tryz.f8 false true false false W args v W' := by
  have hW' := hW
  have hb := bulk_of hk
  obtain ⟨p, q, hA0, hV, rfl, _, _⟩ := hW
  have hA : DataW.TrodAll enc Tryz.prog W 0 (fun _ => true) true Tryz.f8.params.toList args.toList ds p := hA0
  rw [Tryz.params8] at hA hval
  obtain ⟨v0, vs0, d0, ds0, p0, q0, e0, rfl, rfl, h0, r0⟩ := trodAll_cons hA
  obtain ⟨v1, vs1, d1, ds1, p1, q1, e1, rfl, rfl, h1, r1⟩ := trodAll_cons r0
  obtain ⟨v2, vs2, d2, ds2, p2, q2, e2, rfl, rfl, h2, r2⟩ := trodAll_cons r1
  obtain ⟨v3, vs3, d3, ds3, p3, q3, e3, rfl, rfl, h3, r3⟩ := trodAll_cons r2
  obtain ⟨z1, z2, z3⟩ := trodAll_nil r3
  obtain ⟨rfl, rfl⟩ := trodVars_none hV
  subst z2
  obtain rfl : args = #[v0, v1, v2, v3] := by cases args; simp_all
  simp only [List.append_nil, Rows.uptoBulkAll] at hb
  clear hA0
  obtain ⟨n0, g0⟩ := h0
  obtain ⟨a0, hc0, hp0⟩ := open_prog g0 (show Rows.uptoBulk d0 ≤ 1048576 by omega)
  obtain rfl := agg_of Tryz.underlying29 (hval 0 29 v0 rfl rfl) hc0
  obtain ⟨a1, rfl⟩ := u8_arg Tryz.underlying5 (hval 1 5 v1 rfl rfl) h1
  obtain ⟨a2, rfl⟩ := u8_arg Tryz.underlying5 (hval 2 5 v2 rfl rfl) h2
  obtain ⟨a3, rfl⟩ := int_arg Tryz.underlying3 (hval 3 3 v3 rfl rfl) h3
  refine (wrong_law a0 a1 a2 a3 W hp0 (glob_of_laid hL)).mono fun e W' ⟨he, hw⟩ => ?_
  subst he
  exact ⟨_, rfl, law_post laidOut rfl Tryz.underlying4 rfl (by
    intro t ht
    rw [Tryz.params8] at ht
    have hm : t ∈ [29, 5, 3] := by simp at ht ⊢; omega
    have hall : ([29, 5, 3].all fun u => Tryz.prog.readableRec u && decide (u < Tryz.prog.types.size)) = true := by kernel_rfl
    have := List.all_eq_true.1 hall t hm
    simpa using this) (fun ds h => by
    rw [Tryz.params8] at h
    match ds, h with
    | [x0, x1, x2, x3], _ => rfl) hW' hw⟩
theorem atomicWrong_reads (os : Os) {H : Type} (enc : TypeId × Value → H) : ∃ x, DataW.whole enc Tryz.prog ((World.doorLaid Tryz.prog 400 os).forCall (fun _ _ => 0) ⟨#[], #[.agg #[.string ⟨#[]⟩, .slice none 0 0, .slice none 0 0, .slice none 0 0, .int .u8 0, .int .u8 0, .int .u8 0, .int .u8 0, .int .u8 0, .slice none 0 0], .int .u8 0, .int .u8 0, .int .i64 0], []⟩).memory Tryz.f8.params.toList Rows.atomicWrongSpec.vars false (#[.agg #[.string ⟨#[]⟩, .slice none 0 0, .slice none 0 0, .slice none 0 0, .int .u8 0, .int .u8 0, .int .u8 0, .int .u8 0, .int .u8 0, .slice none 0 0], .int .u8 0, .int .u8 0, .int .i64 0] : Array Value).toList 8 = some ([.agg [.lit (.string []), .nil, .nil, .nil, .lit (.int .u8 0), .agg [.lit (.int .u8 0), .lit (.int .u8 0), .lit (.int .u8 0), .lit (.int .u8 0), .nil]], .lit (.int .u8 0), .lit (.int .u8 0), .lit (.int .i64 0)], [], x) :=
  ⟨[], by kernel_rfl⟩
theorem atomicWrong_lifted (os : Os) (started : os.Started) (H : Type) (enc : TypeId × Value → H) (F : Stop.Interp) :
    ReturnsInHanded {} Tryz.checked os 8 .any ((Rows.OpenSpec.upto Rows.atomicWrongSpec).preRow enc Tryz.prog Tryz.f8 Rows.atomicWrongUptoRow.domain false Rows.atomicWrongUptoRow.laid) (((Rows.OpenSpec.upto Rows.atomicWrongSpec).at F).post enc Tryz.prog Tryz.f8 false true false false) := by
  obtain ⟨x, hx⟩ := atomicWrong_reads os enc
  refine returnsInHanded_of_row (C := Tryz.checked) (s := Rows.OpenSpec.upto Rows.atomicWrongSpec) own started (by kernel_rfl) Tryz.func8
    (witness_row_atRef (enc := enc) (C := Tryz.checked) false (World.doorLaid Tryz.prog 400 os) #[.agg #[.string ⟨#[]⟩, .slice none 0 0, .slice none 0 0, .slice none 0 0, .int .u8 0, .int .u8 0, .int .u8 0, .int .u8 0, .int .u8 0, .slice none 0 0], .int .u8 0, .int .u8 0, .int .i64 0] rfl (by kernel_rfl) (by kernel_rfl) (by kernel_rfl)
      (OpenSpec.preRow_of_cond 8 hx (by kernel_rfl) (fun k hk => by cases hk; kernel_rfl) (by kernel_rfl) (door_met os _))) ?_
  intro W base args ds gs before hval hW _ hk _ hL _ _
  exact atomicWrong_contract H enc W base args ds gs before hval hW (hk _ rfl) hL
theorem atomicWrong_said : Rows.AtomicWrongUptoSaid :=
  OpenClaim.holds_of_cond 8 Tryz.f8 rfl rfl rfl rfl rfl rfl rfl ⟨rfl, rfl, rfl, rfl, rfl⟩ rfl rfl rfl rfl rfl (by kernel_rfl) Tryz.func8 (by kernel_rfl)
    (of_decide_eq_true (by kernel_rfl)) (by unfold Func.isWrapper; first | (rw [if_pos (by decide +kernel)]; kernel_rfl) | (rw [if_neg (by decide +kernel)]; exact ⟨rfl, rfl⟩))
    (fun os started H enc _ F => by rw [OpenClaim.pre_eq_preRow]; exact atomicWrong_lifted os started H enc F)
theorem atomicWrong_card : Rows.AtomicWrongUptoCardSaid :=
  Claim7.holds_tied_plain_at .later [] _ _ _ _ atomicWrong_said (fun _ h => by cases h) (by kernel_rfl) (fun _ h => by cases h) atomicWrongUpto_row_tie rfl ⟨rfl, rfl⟩ (by kernel_rfl) rfl
    (fun f fn hf hfn => by
      obtain rfl : f = 8 := Option.some.inj ((show Tryz.prog.funcNamed "seisin/seisinlaw13.AtomicWrong" = some 8 by kernel_rfl).symm.trans hf) |>.symm
      obtain rfl : fn = Tryz.f8 := (Option.some.inj (Tryz.func8.symm.trans hfn)).symm
      exact ⟨by kernel_rfl, fun j t ht => by
        rw [Tryz.params8] at ht
        have hm : t ∈ [29, 5, 5, 3] := by simpa using Array.mem_of_getElem? ht
        have hall : ([29, 5, 5, 3].all fun u => !Tryz.prog.wantsStandIn u) = true := by kernel_rfl
        exact (show Tryz.prog.wantsStandIn t = false by simpa using List.all_eq_true.1 hall t hm)⟩)
    (by kernel_rfl)

end Go.Proofs.YtpnaooajmdildaaGreatDoor
