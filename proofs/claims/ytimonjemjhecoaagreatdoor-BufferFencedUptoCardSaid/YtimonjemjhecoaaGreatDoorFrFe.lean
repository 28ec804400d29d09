/- Walks, printed by a program of this repository (wip/tool). -/
import Derived.Test.YtimonjemjhecoaaGreatDoorFrC
import Derived.Test.YtimonjemjhecoaaGreatDoorCards
import Derived.Test.YtimonjemjhecoaaGreatDoorTie
import Derived.SevenTiedAt
import Derived.Test.YtimonjemjhecoaaGreatDoorFeL
namespace Go.Proofs.YtimonjemjhecoaaGreatDoor
open Go.RowKit
open Go
attribute [local irreducible] wpList wpQuiet wpX Code.wp
set_option maxHeartbeats 1000000
set_option maxRecDepth 100000
set_option linter.unusedSimpArgs false
set_option linter.unusedVariables false

theorem fenced_law (p : Prog) (pso : Bool) (picks : Sl UInt8) (w : World) (hp : IsProg p w) (hpicks : SlIn 1 eByte picks w) (hg : Glob w) :
    Calls Tryz.prog 7 #[.agg p.cells.toArray, .bool pso, picks.val] w fun e w' => e = .returned (.bool true) ∧ Ext w w' := by
  have h := fencedF_spec p pso picks w hp hpicks hg
  rw [fenced_true] at h
  exact h


open Go.ChangeShapes Go.WideShapes Go.ChangeAt Go.WideMaps Go.WideElems Go.RowKit
theorem bufferFenced_contract (H : Type) (enc : TypeId × Value → H) (W : World) (base : Nat) (args : Array Value) (ds gs : List (DataW H)) (before : List MemPlace)
    (hval : ∀ (j : Nat) t v, Tryz.f7.params[j]? = some t → args[j]? = some v → Value.okWide Tryz.prog W .any base t v)
    (hW : DataW.Whole enc Tryz.prog Tryz.f7.params.toList Rows.bufferFencedSpec.vars false W args.toList ds gs before) (hk : Rows.uptoSmall H (ds ++ gs) = true) (hL : laidMetH Tryz.prog laids W) :
    Calls Tryz.prog 7 args W fun e W' => ∃ v, e = .returned v ∧ Rows.bufferFencedSpec.post enc Tryz.prog Tryz.f7 false true false false W args v W' := by
  have hW' := hW
  have hb := bulk_of hk
  obtain ⟨p, q, hA0, hV, rfl, _, _⟩ := hW
  have hA : DataW.TrodAll enc Tryz.prog W 0 (fun _ => true) true Tryz.f7.params.toList args.toList ds p := hA0
  rw [Tryz.params7] at hA hval
  obtain ⟨v0, vs0, d0, ds0, p0, q0, e0, rfl, rfl, h0, r0⟩ := trodAll_cons hA
  obtain ⟨v1, vs1, d1, ds1, p1, q1, e1, rfl, rfl, h1, r1⟩ := trodAll_cons r0
  obtain ⟨v2, vs2, d2, ds2, p2, q2, e2, rfl, rfl, h2, r2⟩ := trodAll_cons r1
  obtain ⟨z1, z2, z3⟩ := trodAll_nil r2
  obtain ⟨rfl, rfl⟩ := trodVars_none hV
  subst z2
  obtain rfl : args = #[v0, v1, v2] := by cases args; simp_all
  simp only [List.append_nil, Rows.uptoBulkAll] at hb
  clear hA0
  obtain ⟨n0, g0⟩ := h0
  obtain ⟨a0, hc0, hp0⟩ := open_prog g0 (show Rows.uptoBulk d0 ≤ 1048576 by omega)
  obtain rfl := agg_of Tryz.underlying29 (hval 0 29 v0 rfl rfl) hc0
  obtain ⟨a1, rfl⟩ := bool_arg Tryz.underlying4 (hval 1 4 v1 rfl rfl) h1
  obtain ⟨n2, g2⟩ := h2
  obtain ⟨a2, hc2, hp2⟩ := open_bytes g2 (show Rows.uptoBulk d2 ≤ 1048576 by omega)
  obtain rfl := slice_of Tryz.underlying23 (hval 2 23 v2 rfl rfl) hc2
  refine (fenced_law a0 a1 a2 W hp0 hp2 (glob_of_laid hL)).mono fun e W' ⟨he, hw⟩ => ?_
  subst he
  exact ⟨_, rfl, law_post laidOut rfl Tryz.underlying4 rfl (by
    intro t ht
    rw [Tryz.params7] at ht
    have hm : t ∈ [29, 4, 23] := by simp at ht ⊢; omega
    have hall : ([29, 4, 23].all fun u => Tryz.prog.readableRec u && decide (u < Tryz.prog.types.size)) = true := by kernel_rfl
    have := List.all_eq_true.1 hall t hm
    simpa using this) (fun ds h => by
    rw [Tryz.params7] at h
    match ds, h with
    | [x0, x1, x2], _ => rfl) hW' hw⟩
theorem bufferFenced_reads (os : Os) {H : Type} (enc : TypeId × Value → H) : ∃ x, DataW.whole enc Tryz.prog ((World.doorLaid Tryz.prog 400 os).forCall (fun _ _ => 0) ⟨#[], #[.agg #[.string ⟨#[]⟩, .slice none 0 0, .slice none 0 0, .slice none 0 0, .int .u8 0, .int .u8 0, .int .u8 0, .int .u8 0, .int .u8 0, .slice none 0 0], .bool false, .slice none 0 0], []⟩).memory Tryz.f7.params.toList Rows.bufferFencedSpec.vars false (#[.agg #[.string ⟨#[]⟩, .slice none 0 0, .slice none 0 0, .slice none 0 0, .int .u8 0, .int .u8 0, .int .u8 0, .int .u8 0, .int .u8 0, .slice none 0 0], .bool false, .slice none 0 0] : Array Value).toList 8 = some ([.agg [.lit (.string []), .nil, .nil, .nil, .lit (.int .u8 0), .agg [.lit (.int .u8 0), .lit (.int .u8 0), .lit (.int .u8 0), .lit (.int .u8 0), .nil]], .lit (.bool false), .nil], [], x) :=
  ⟨[], by kernel_rfl⟩
theorem bufferFenced_lifted (os : Os) (started : os.Started) (H : Type) (enc : TypeId × Value → H) (F : Stop.Interp) :
    ReturnsInHanded {} Tryz.checked os 7 .any ((Rows.OpenSpec.upto Rows.bufferFencedSpec).preRow enc Tryz.prog Tryz.f7 Rows.bufferFencedUptoRow.domain false Rows.bufferFencedUptoRow.laid) (((Rows.OpenSpec.upto Rows.bufferFencedSpec).at F).post enc Tryz.prog Tryz.f7 false true false false) := by
  obtain ⟨x, hx⟩ := bufferFenced_reads os enc
  refine returnsInHanded_of_row (C := Tryz.checked) (s := Rows.OpenSpec.upto Rows.bufferFencedSpec) own started (by kernel_rfl) Tryz.func7
    (witness_row_atRef (enc := enc) (C := Tryz.checked) false (World.doorLaid Tryz.prog 400 os) #[.agg #[.string ⟨#[]⟩, .slice none 0 0, .slice none 0 0, .slice none 0 0, .int .u8 0, .int .u8 0, .int .u8 0, .int .u8 0, .int .u8 0, .slice none 0 0], .bool false, .slice none 0 0] rfl (by kernel_rfl) (by kernel_rfl) (by kernel_rfl)
      (OpenSpec.preRow_of_cond 8 hx (by kernel_rfl) (fun k hk => by cases hk; kernel_rfl) (by kernel_rfl) (door_met os _))) ?_
  intro W base args ds gs before hval hW _ hk _ hL _ _
  exact bufferFenced_contract H enc W base args ds gs before hval hW (hk _ rfl) hL
theorem bufferFenced_said : Rows.BufferFencedUptoSaid :=
  OpenClaim.holds_of_cond 7 Tryz.f7 rfl rfl rfl rfl rfl rfl rfl ⟨rfl, rfl, rfl, rfl, rfl⟩ rfl rfl rfl rfl rfl (by kernel_rfl) Tryz.func7 (by kernel_rfl)
    (of_decide_eq_true (by kernel_rfl)) (by unfold Func.isWrapper; first | (rw [if_pos (by decide +kernel)]; kernel_rfl) | (rw [if_neg (by decide +kernel)]; exact ⟨rfl, rfl⟩))
    (fun os started H enc _ F => by rw [OpenClaim.pre_eq_preRow]; exact bufferFenced_lifted os started H enc F)
theorem bufferFenced_card : Rows.BufferFencedUptoCardSaid :=
  Claim7.holds_tied_plain_at .later [] _ _ _ _ bufferFenced_said (fun _ h => by cases h) (by kernel_rfl) (fun _ h => by cases h) bufferFencedUpto_row_tie rfl ⟨rfl, rfl⟩ (by kernel_rfl) rfl
    (fun f fn hf hfn => by
      obtain rfl : f = 7 := Option.some.inj ((show Tryz.prog.funcNamed "seisin/seisinlaw14.BufferFenced" = some 7 by kernel_rfl).symm.trans hf) |>.symm
      obtain rfl : fn = Tryz.f7 := (Option.some.inj (Tryz.func7.symm.trans hfn)).symm
      exact ⟨by kernel_rfl, fun j t ht => by
        rw [Tryz.params7] at ht
        have hm : t ∈ [29, 4, 23] := by simpa using Array.mem_of_getElem? ht
        have hall : ([29, 4, 23].all fun u => !Tryz.prog.wantsStandIn u) = true := by kernel_rfl
        exact (show Tryz.prog.wantsStandIn t = false by simpa using List.all_eq_true.1 hall t hm)⟩)
    (by kernel_rfl)

end Go.Proofs.YtimonjemjhecoaaGreatDoor
