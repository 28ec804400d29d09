/- Walks, printed by a program of this repository (wip/tool). -/
import Derived.Test.YtimonjemjhecoaaGreatDoorBA
import Derived.Test.YtimonjemjhecoaaGreatDoorBSt
import Derived.Test.YtimonjemjhecoaaGreatDoorFrC
import Derived.Test.YtimonjemjhecoaaGreatDoorCards
import Derived.Test.YtimonjemjhecoaaGreatDoorTie
import Derived.SevenTiedAt
namespace Go.Proofs.YtimonjemjhecoaaGreatDoor
open Go.RowKit
open Go
attribute [local irreducible] wpList wpQuiet wpX Code.wp
set_option maxHeartbeats 1000000
set_option maxRecDepth 100000
set_option linter.unusedSimpArgs false
set_option linter.unusedVariables false


theorem flat_filter {α : Type} (c : Nat → Bool) (f : Nat → α) : ∀ l : List Nat, l.flatMap (fun t => if c t = true then [f t] else []) = (l.filter c).map f
  | [] => rfl
  | x :: l => by
    rw [List.flatMap_cons, flat_filter c f l, List.filter_cons]
    cases c x <;> simp
theorem strong_want {p : Prog} {S : List UInt8} (hv : Valid p S) : passesF p 1 S = (movesF p S).map (fun u => (⟨UInt8.ofNat (u % 256).toNat, false, 0⟩ : Pass)) := by
  have h4 := hv.ok.threads
  rw [moves_eq ((valid_iff hv.len).2 hv), able_eq, List.map_map, passes_eq]
  refine Eq.trans ?_ (flat_filter (fun j => mayF p S (j : Int)) (fun j => (⟨thU j, false, 0⟩ : Pass)) (List.range' 0 p.threads.l.length))
  refine flat_congr _ fun t ht => ?_
  rw [List.mem_range'_1] at ht
  have hz : S.getD (138 + t) 0 = 0 := hv.rest _ (by omega) (by omega)
  unfold passAt
  rw [drains_eq, hz]
  show _ ++ [] = _
  rw [List.append_nil]
  have e : bMayF p 1 S t = mayF p S (t : Int) := by
    rw [Bool.eq_iff_iff, bmay_iff, mayF_nat, Int.toNat_natCast, mayN_iff]
    exact ⟨fun h => ⟨by omega, by omega, h.1⟩, fun h => ⟨h.2.2, fun _ => hz, fun _ => .inl hz⟩⟩
  rw [e]
where
  flat_congr {α : Type} {f g : Nat → List α} : ∀ l : List Nat, (∀ x, x ∈ l → f x = g x) → l.flatMap f = l.flatMap g
    | [], _ => rfl
    | x :: l, h => by
      rw [List.flatMap_cons, List.flatMap_cons, h x (List.mem_cons_self ..), flat_congr l fun y hy => h y (List.mem_cons_of_mem _ hy)]
theorem strong_row (K : List Pass → Bool) : ∀ (l : List Int) (row : List Pass), loopL strongF_d K l row = K (row ++ l.map (fun u => (⟨UInt8.ofNat (u % 256).toNat, false, 0⟩ : Pass)))
  | [], row => by simp [loopL]
  | x :: l, row => by
    show loopL strongF_d K l (row ++ [_]) = _
    rw [strong_row K l, List.append_assoc]
    rfl
theorem passesEq_go (b : List Pass) : ∀ (l dn : List Pass), b = dn ++ l → loopL (passesEq_a b) passesEq_ak l dn.length = true
  | [], dn, _ => rfl
  | x :: l, dn, e => by
    show passesEq_a b x (loopL (passesEq_a b) passesEq_ak l) dn.length = true
    unfold passesEq_a
    simp only
    have hx : b.getD dn.length default = x := by
      rw [e, List.getD_eq_getElem?_getD, List.getElem?_append_right (Nat.le_refl _), Nat.sub_self]
      rfl
    rw [hx, decide_eq_true rfl, Bool.not_true, cond_false]
    have h := passesEq_go b l (dn ++ [x]) (by rw [e, List.append_assoc]; rfl)
    rw [List.length_append] at h
    exact h
theorem passesEq_self (b : List Pass) : passesEq b b = true := by
  unfold passesEq
  rw [bne_self_eq_false, cond_false]
  exact passesEq_go b b [] rfl
theorem strong_c {p : Prog} {mach : UInt8} {picks : List UInt8} {n k : Nat} {S : List UInt8} (hv : Valid p S) (hm : mayN p S k = true) (hn : (playF p (picks.take (min picks.length 60))).2.1.getD n default = (k : Int)) (rb : Nat × List UInt8 → Bool) :
    strongF_c p mach picks n S rb = rb (n + 1, goesF p S k) := by
  have hkd := machine_kind mach
  obtain ⟨hk, hk4, hpc, hU⟩ := may_lt hv hm
  have hb := bvalid_of_valid (mach := machineF mach) hv hkd
  have hx := goP_mem (mach := machineF mach) hv hm
  unfold strongF_c strongF_v88 strongF_v96 strongF_f strongF_v124
  rw [hn, show (⟨UInt8.ofNat (((k : Nat) : Int) % 256).toNat, false, 0⟩ : Pass) = goP k from rfl, bmove_in hb hx, storeF_iff hk hpc]
  simp only [bne_self_eq_false, cond_false]
  by_cases ho : (insB p S k).op = 2
  · rw [beq_iff_eq.2 ho]
    by_cases hm1 : machineF mach = 1
    · rw [does_plain hv hkd hm (fun _ => hm1), beq_iff_eq.2 hm1]
      rfl
    · have hk2 : machineF mach = 2 ∨ machineF mach = 3 := hkd.resolve_left hm1
      obtain ⟨h1, h2, h3⟩ := does_both hv hk2 hm ho
      have hT := (does_next hb hx).1
      rw [beq_eq_false_iff_ne.2 hm1, Int.toNat_natCast, h1]
      simp only [Bool.not_true, Bool.or_false, cond_false]
      have e : ∀ l : UInt8, (⟨UInt8.ofNat (((k : Nat) : Int) % 256).toNat, true, l⟩ : Pass) = ⟨thU k, true, l⟩ := fun l => rfl
      rcases hk2 with h | h
      · rw [h] at h2 h3 hT ⊢
        rw [show ((2 : UInt8) == 3) = false by rfl, cond_false, e, show (⟨thU k, true, 0⟩ : Pass) = drP1 2 k (insB p S k).loc from rfl, bmove_in hT h2, h3]
        rfl
      · rw [h] at h2 h3 hT ⊢
        rw [show ((3 : UInt8) == 3) = true by rfl, cond_true, e, show (⟨thU k, true, (insB p S k).loc⟩ : Pass) = drP1 3 k (insB p S k).loc from rfl, bmove_in hT h2, h3]
        rfl
  · rw [does_plain hv hkd hm (fun h => absurd h ho), beq_eq_false_iff_ne.2 ho]
    rfl
theorem strong_run {p : Prog} {mach : UInt8} {picks : List UInt8} (K : Nat × List UInt8 → Bool) {S T : List UInt8} {l : List Int} (r : Run p S l T) : Valid p S → ∀ dn, (playF p (picks.take (min picks.length 60))).2.1 = dn ++ l →
    loopL (strongF_b p mach picks) K l (dn.length, S) = K (dn.length + l.length, T) := by
  induction r with
  | nil => intro _ dn _; rfl
  | cons h r ih =>
    rename_i S t l T
    intro hv dn e
    obtain ⟨h0, hm⟩ := mayF_nat.1 h
    obtain ⟨k, rfl⟩ : ∃ k : Nat, t = (k : Int) := ⟨t.toNat, by omega⟩
    rw [Int.toNat_natCast] at hm r ih
    have hx : (playF p (picks.take (min picks.length 60))).2.1.getD dn.length default = (k : Int) := by
      rw [e, List.getD_eq_getElem?_getD, List.getElem?_append_right (Nat.le_refl _), Nat.sub_self]
      rfl
    have hv' := goes_valid hv hm
    show strongF_b p mach picks (k : Int) (loopL (strongF_b p mach picks) K l) (dn.length, S) = _
    have hc := strong_c (mach := mach) hv hm hx (loopL (strongF_b p mach picks) K l)
    have hrest : loopL (strongF_b p mach picks) K l (dn.length + 1, goesF p S k) = K (dn.length + ((k : Int) :: l).length, T) := by
      have := ih hv' (dn ++ [(k : Int)]) (by rw [e, List.append_assoc]; rfl)
      rw [List.length_append, List.length_singleton] at this
      rw [this, List.length_cons, Nat.add_right_comm, Nat.add_assoc]
    generalize loopL (strongF_b p mach picks) K l = R at hc hrest ⊢
    unfold strongF_b
    simp only
    cases hm1 : (machineF mach == 1)
    · rw [cond_false]
      exact hc.trans hrest
    · rw [cond_true, strong_row, List.nil_append]
      unfold strongF_dk
      simp only
      have hb := bvalid_of_valid (mach := machineF mach) hv (machine_kind mach)
      rw [bmoves_eq hb, beq_iff_eq.1 hm1, strong_want hv, passesEq_self]
      unfold strongF_v83
      exact hc.trans hrest
theorem strong_end {p : Prog} {mach : UInt8} {T : List UInt8} (hk : mach = 1 ∨ mach = 2 ∨ mach = 3) (hv : Valid p T) (h : ableF p T = []) : passesF p mach T = [] := by
  have h4 := hv.ok.threads
  rw [List.eq_nil_iff_forall_not_mem]
  intro x hx
  obtain ⟨t, ht, h1 | ⟨k, hk', _, _⟩⟩ := passes_mem.1 hx
  · have hpc := (bmay_iff.1 h1.1).1
    have : (t : Int) ∈ ableF p T := able_mem.2 (mayF_nat.2 ⟨by omega, by rw [Int.toNat_natCast]; exact mayN_iff.2 ⟨ht, hpc⟩⟩)
    rw [h] at this
    cases this
  · rw [hv.rest _ (by omega) (by omega)] at hk'
    exact absurd hk' (Nat.not_lt_zero _)
theorem strong_true (p : Prog) (mach : UInt8) (picks : List UInt8) : strongF p mach picks = true := by
  unfold strongF strongF_a
  by_cases hr : rightF p = 0
  · obtain ⟨l, T, r, h1, h2⟩ := play_eq hr (picks.take (min picks.length 60))
    have hv := (start_valid hr).2
    rw [(start_valid hr).1, h2]
    rw [show (((finalF T, l, (0 : Int)).2.2 != 0) || ((0 : Int) != 0)) = false by rfl, cond_false]
    have key := strong_run (mach := mach) (picks := picks) (strongF_bk p mach picks) r hv [] (by rw [h2]; rfl)
    refine key.trans ?_
    have hT := r.valid hv
    have he := strong_end (machine_kind mach) hT h1
    unfold strongF_bk strongF_v133
    simp only
    rw [h2, over_end (bvalid_of_valid hT (machine_kind mach)) he, decide_eq_true rfl]
    rfl
  · rw [play_no hr, start_no hr]
    have : (rightF p != 0) = true := bne_iff_ne.2 hr
    rw [this]
    rfl

end Go.Proofs.YtimonjemjhecoaaGreatDoor

namespace Go.Proofs.YtimonjemjhecoaaGreatDoor
open Go.RowKit
open Go
attribute [local irreducible] wpList wpQuiet wpX Code.wp
set_option maxHeartbeats 1000000
set_option maxRecDepth 100000
set_option linter.unusedSimpArgs false
set_option linter.unusedVariables false

theorem strong_law (p : Prog) (mach : UInt8) (picks : Sl UInt8) (w : World) (hp : IsProg p w) (hpicks : SlIn 1 eByte picks w) (hg : Glob w) :
    Calls Tryz.prog 8 #[.agg p.cells.toArray, bv mach, picks.val] w fun e w' => e = .returned (.bool true) ∧ Ext w w' := by
  have h := strongF_spec p mach picks w hp hpicks hg
  rw [strong_true] at h
  exact h


open Go.ChangeShapes Go.WideShapes Go.ChangeAt Go.WideMaps Go.WideElems Go.RowKit
theorem bufferStrong_contract (H : Type) (enc : TypeId × Value → H) (W : World) (base : Nat) (args : Array Value) (ds gs : List (DataW H)) (before : List MemPlace)
    (hval : ∀ (j : Nat) t v, Tryz.f8.params[j]? = some t → args[j]? = some v → Value.okWide Tryz.prog W .any base t v)
    (hW : DataW.Whole enc Tryz.prog Tryz.f8.params.toList Rows.bufferStrongSpec.vars false W args.toList ds gs before) (hk : Rows.uptoSmall H (ds ++ gs) = true) (hL : laidMetH Tryz.prog laids W) :
    Calls Tryz.prog 8 args W fun e W' => ∃ v, e = .returned v ∧ Rows.bufferStrongSpec.post enc Tryz.prog Tryz.f8 false true false false W args v W' := by
  have hW' := hW
  have hb := bulk_of hk
  obtain ⟨p, q, hA0, hV, rfl, _, _⟩ := hW
  have hA : DataW.TrodAll enc Tryz.prog W 0 (fun _ => true) true Tryz.f8.params.toList args.toList ds p := hA0
  rw [Tryz.params8] at hA hval
  obtain ⟨v0, vs0, d0, ds0, p0, q0, e0, rfl, rfl, h0, r0⟩ := trodAll_cons hA
  obtain ⟨v1, vs1, d1, ds1, p1, q1, e1, rfl, rfl, h1, r1⟩ := trodAll_cons r0
  obtain ⟨v2, vs2, d2, ds2, p2, q2, e2, rfl, rfl, h2, r2⟩ := trodAll_cons r1
  obtain ⟨z1, z2, z3⟩ := trodAll_nil r2
  obtain ⟨rfl, rfl⟩ := trodVars_none hV
  subst z2
  obtain rfl : args = #[v0, v1, v2] := by cases args; simp_all
  simp only [List.append_nil, Rows.uptoBulkAll] at hb
  clear hA0
  obtain ⟨n0, g0⟩ := h0
  obtain ⟨a0, hc0, hp0⟩ := open_prog g0 (show Rows.uptoBulk d0 ≤ 1048576 by omega)
  obtain rfl := agg_of Tryz.underlying29 (hval 0 29 v0 rfl rfl) hc0
  obtain ⟨a1, rfl⟩ := u8_arg Tryz.underlying5 (hval 1 5 v1 rfl rfl) h1
  obtain ⟨n2, g2⟩ := h2
  obtain ⟨a2, hc2, hp2⟩ := open_bytes g2 (show Rows.uptoBulk d2 ≤ 1048576 by omega)
  obtain rfl := slice_of Tryz.underlying23 (hval 2 23 v2 rfl rfl) hc2
  refine (strong_law a0 a1 a2 W hp0 hp2 (glob_of_laid hL)).mono fun e W' ⟨he, hw⟩ => ?_
  subst he
  exact ⟨_, rfl, law_post laidOut rfl Tryz.underlying4 rfl (by
    intro t ht
    rw [Tryz.params8] at ht
    have hm : t ∈ [29, 5, 23] := by simp at ht ⊢; omega
    have hall : ([29, 5, 23].all fun u => Tryz.prog.readableRec u && decide (u < Tryz.prog.types.size)) = true := by kernel_rfl
    have := List.all_eq_true.1 hall t hm
    simpa using this) (fun ds h => by
    rw [Tryz.params8] at h
    match ds, h with
    | [x0, x1, x2], _ => rfl) hW' hw⟩
theorem bufferStrong_reads (os : Os) {H : Type} (enc : TypeId × Value → H) : ∃ x, DataW.whole enc Tryz.prog ((World.doorLaid Tryz.prog 400 os).forCall (fun _ _ => 0) ⟨#[], #[.agg #[.string ⟨#[]⟩, .slice none 0 0, .slice none 0 0, .slice none 0 0, .int .u8 0, .int .u8 0, .int .u8 0, .int .u8 0, .int .u8 0, .slice none 0 0], .int .u8 0, .slice none 0 0], []⟩).memory Tryz.f8.params.toList Rows.bufferStrongSpec.vars false (#[.agg #[.string ⟨#[]⟩, .slice none 0 0, .slice none 0 0, .slice none 0 0, .int .u8 0, .int .u8 0, .int .u8 0, .int .u8 0, .int .u8 0, .slice none 0 0], .int .u8 0, .slice none 0 0] : Array Value).toList 8 = some ([.agg [.lit (.string []), .nil, .nil, .nil, .lit (.int .u8 0), .agg [.lit (.int .u8 0), .lit (.int .u8 0), .lit (.int .u8 0), .lit (.int .u8 0), .nil]], .lit (.int .u8 0), .nil], [], x) :=
  ⟨[], by kernel_rfl⟩
theorem bufferStrong_lifted (os : Os) (started : os.Started) (H : Type) (enc : TypeId × Value → H) (F : Stop.Interp) :
    ReturnsInHanded {} Tryz.checked os 8 .any ((Rows.OpenSpec.upto Rows.bufferStrongSpec).preRow enc Tryz.prog Tryz.f8 Rows.bufferStrongUptoRow.domain false Rows.bufferStrongUptoRow.laid) (((Rows.OpenSpec.upto Rows.bufferStrongSpec).at F).post enc Tryz.prog Tryz.f8 false true false false) := by
  obtain ⟨x, hx⟩ := bufferStrong_reads os enc
  refine returnsInHanded_of_row (C := Tryz.checked) (s := Rows.OpenSpec.upto Rows.bufferStrongSpec) own started (by kernel_rfl) Tryz.func8
    (witness_row_atRef (enc := enc) (C := Tryz.checked) false (World.doorLaid Tryz.prog 400 os) #[.agg #[.string ⟨#[]⟩, .slice none 0 0, .slice none 0 0, .slice none 0 0, .int .u8 0, .int .u8 0, .int .u8 0, .int .u8 0, .int .u8 0, .slice none 0 0], .int .u8 0, .slice none 0 0] rfl (by kernel_rfl) (by kernel_rfl) (by kernel_rfl)
      (OpenSpec.preRow_of_cond 8 hx (by kernel_rfl) (fun k hk => by cases hk; kernel_rfl) (by kernel_rfl) (door_met os _))) ?_
  intro W base args ds gs before hval hW _ hk _ hL _ _
  exact bufferStrong_contract H enc W base args ds gs before hval hW (hk _ rfl) hL
theorem bufferStrong_said : Rows.BufferStrongUptoSaid :=
  OpenClaim.holds_of_cond 8 Tryz.f8 rfl rfl rfl rfl rfl rfl rfl ⟨rfl, rfl, rfl, rfl, rfl⟩ rfl rfl rfl rfl rfl (by kernel_rfl) Tryz.func8 (by kernel_rfl)
    (of_decide_eq_true (by kernel_rfl)) (by unfold Func.isWrapper; first | (rw [if_pos (by decide +kernel)]; kernel_rfl) | (rw [if_neg (by decide +kernel)]; exact ⟨rfl, rfl⟩))
    (fun os started H enc _ F => by rw [OpenClaim.pre_eq_preRow]; exact bufferStrong_lifted os started H enc F)
theorem bufferStrong_card : Rows.BufferStrongUptoCardSaid :=
  Claim7.holds_tied_plain_at .later [] _ _ _ _ bufferStrong_said (fun _ h => by cases h) (by kernel_rfl) (fun _ h => by cases h) bufferStrongUpto_row_tie rfl ⟨rfl, rfl⟩ (by kernel_rfl) rfl
    (fun f fn hf hfn => by
      obtain rfl : f = 8 := Option.some.inj ((show Tryz.prog.funcNamed "seisin/seisinlaw14.BufferStrong" = some 8 by kernel_rfl).symm.trans hf) |>.symm
      obtain rfl : fn = Tryz.f8 := (Option.some.inj (Tryz.func8.symm.trans hfn)).symm
      exact ⟨by kernel_rfl, fun j t ht => by
        rw [Tryz.params8] at ht
        have hm : t ∈ [29, 5, 23] := by simpa using Array.mem_of_getElem? ht
        have hall : ([29, 5, 23].all fun u => !Tryz.prog.wantsStandIn u) = true := by kernel_rfl
        exact (show Tryz.prog.wantsStandIn t = false by simpa using List.all_eq_true.1 hall t hm)⟩)
    (by kernel_rfl)

end Go.Proofs.YtimonjemjhecoaaGreatDoor
