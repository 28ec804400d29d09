/- Walks, printed by a program of this repository (wip/tool). -/
import Derived.Test.YtimonjemjhecoaaGreatDoorWaB
import Derived.Test.YtimonjemjhecoaaGreatDoorBWa
import Derived.Test.YtimonjemjhecoaaGreatDoorFrC
import Derived.Test.YtimonjemjhecoaaGreatDoorCards
import Derived.Test.YtimonjemjhecoaaGreatDoorTie
import Derived.SevenTiedAt
namespace Go.Proofs.YtimonjemjhecoaaGreatDoor
open Go.RowKit
open Go
attribute [local irreducible] wpList wpQuiet wpX Code.wp
set_option maxHeartbeats 1000000
set_option maxRecDepth 100000
set_option linter.unusedSimpArgs false
set_option linter.unusedVariables false


theorem waits_sum (K : Nat → Bool) : ∀ (l : List (Sl Ins)) (n : Nat), loopL waitsF_b K l n = K (n + (l.map (fun x => x.l.length)).sum)
  | [], n => by simp [loopL]
  | x :: l, n => by
    show loopL waitsF_b K l (n + x.l.length) = _
    rw [waits_sum K l, List.map_cons, List.sum_cons, Nat.add_assoc]
/-- What the loop over a state's moves finds out about thread d. -/
theorem waits_flags (d : Nat) (K : (Bool × Bool) → Bool) : ∀ (l : List Pass) (a b : Bool), loopL (waitsF_f d) K l (a, b) = K (a || l.any (fun x => ((x.thread.toNat : Int) == ((d : Nat) : Int)) && !x.drain), b || l.any (fun x => ((x.thread.toNat : Int) == ((d : Nat) : Int)) && x.drain))
  | [], a, b => by simp [loopL]
  | x :: l, a, b => by
    show loopL (waitsF_f d) K l (a || _, b || _) = _
    rw [waits_flags d K l]
    simp only [List.any_cons, Bool.or_assoc]
section
variable {p : Prog} {mach : UInt8} {S : List UInt8}
theorem waits_thread (hv : BValid p mach S) (hm : bMovesF p mach S = passesF p mach S) {d : Nat} (hd : d < p.threads.l.length) (rd : Nat → Bool) {k0 : Bool} (hr : rd (d + 1) = k0) :
    loopL (waitsF_f d) (waitsF_fk p S d rd) (passesF p mach S) (false, false) = k0 := by
  rw [waits_flags, Bool.false_or, Bool.false_or, goes_flag hv hd, drains_flag hv hd]
  unfold waitsF_fk
  simp only
  rw [bne_self_eq_false, Bool.false_or]
  cases h : bMayF p mach S d
  · cases h0 : decide ((0 : UInt8) < S.getD (138 + d) 0)
    · have hz : S.getD (138 + d) 0 = 0 := by
        have h1 := of_decide_eq_false h0
        rw [UInt8.lt_iff_toNat_lt] at h1
        have z : (0 : UInt8).toNat = 0 := rfl
        exact UInt8.toNat_inj.1 (by omega)
      have hpc : ¬ (S.getD (d * 9) 0).toNat < (p.threads.l.getD d default).l.length := fun hpc => by rw [bmay_empty hpc hz] at h; cases h
      rw [decide_eq_false (show ¬ ((S.getD (d * 9) 0).toNat : Int) < (((p.threads.l.getD d default).l.length : Nat) : Int) by omega)]
      simpa using hr
    · simpa using hr
  · obtain ⟨h1, h2, h3⟩ := bmay_iff.1 h
    rw [decide_eq_true (show ((S.getD (d * 9) 0).toNat : Int) < (((p.threads.l.getD d default).l.length : Nat) : Int) by omega), decide_eq_false (show ¬ (((p.threads.l.getD d default).l.length : Nat) : Int) ≤ ((S.getD (d * 9) 0).toNat : Int) by omega)]
    cases h0 : decide ((0 : UInt8) < S.getD (138 + d) 0)
    · simpa using hr
    · have hz : S.getD (138 + d) 0 ≠ 0 := fun e => by rw [e] at h0; exact absurd h0 (by decide)
      have e1 : ((decide ((4 : UInt8) ≤ (insB p S d).op) && decide ((insB p S d).op ≤ 6)) || ((insB p S d).op == 7 && (insB p S d).mode == 3)) = false := by
        rw [Bool.or_eq_false_iff, Bool.and_eq_false_iff, Bool.and_eq_false_iff]
        constructor
        · by_cases hc : (4 : UInt8) ≤ (insB p S d).op
          · right
            refine decide_eq_false fun hc2 => hz (h2 ?_)
            rw [UInt8.le_iff_toNat_le] at hc hc2
            have z4 : (4 : UInt8).toNat = 4 := rfl
            have z6 : (6 : UInt8).toNat = 6 := rfl
            rcases (by omega : (insB p S d).op.toNat = 4 ∨ (insB p S d).op.toNat = 5 ∨ (insB p S d).op.toNat = 6) with e | e | e
            · exact .inl (UInt8.toNat_inj.1 e)
            · exact .inr (.inl (UInt8.toNat_inj.1 e))
            · exact .inr (.inr (UInt8.toNat_inj.1 e))
          · left; exact decide_eq_false hc
        · by_cases hc : (insB p S d).op = 7
          · right
            refine beq_eq_false_iff_ne.2 fun e => ?_
            rcases h3 hc with h4 | h4 | h4
            · exact hz h4
            · rw [e] at h4; exact absurd h4 (by decide)
            · rw [e] at h4; exact absurd h4.1 (by decide)
          · left; exact beq_eq_false_iff_ne.2 hc
      unfold insB insAt at e1
      simp only [Bool.not_true, Bool.and_false, Bool.false_and, Bool.or_false, Bool.and_true, cond_false, cond_true]
      rw [e1, cond_false]
      exact hr
theorem waits_threads (hv : BValid p mach S) (hm : bMovesF p mach S = passesF p mach S) {K : Nat → Bool} {k0 : Bool} (hK : ∀ k, K k = k0) :
    loopL (fun (_ : Sl Ins) (rd : Nat → Bool) (d : Nat) => loopL (waitsF_f d) (waitsF_fk p S d rd) (passesF p mach S) (false, false)) K p.threads.l 0 = k0 :=
  go p.threads.l 0 (by omega)
where
  go : ∀ (l : List (Sl Ins)) (d : Nat), d + l.length = p.threads.l.length → loopL (fun (_ : Sl Ins) (rd : Nat → Bool) (d : Nat) => loopL (waitsF_f d) (waitsF_fk p S d rd) (passesF p mach S) (false, false)) K l d = k0
    | [], d, _ => hK d
    | a :: l, d, e => waits_thread hv hm (by rw [List.length_cons] at e; omega) _ (go l (d + 1) (by rw [List.length_cons] at e; omega))
end
theorem waits_run {p : Prog} {mach : UInt8} {picks : List UInt8} (K : Nat × List UInt8 → Bool) {S T : List UInt8} {l : List Pass} (r : BRun p (machineF mach) S l T) : BValid p (machineF mach) S → ∀ dn, (bPlayF p (machineF mach) (picks.take (min picks.length 100))).2.1 = dn ++ l →
    loopL (waitsF_c p mach picks) K l (dn.length, S) = K (dn.length + l.length, T) := by
  induction r with
  | nil => intro _ dn _; rfl
  | cons h r ih =>
    rename_i S x l T
    intro hv dn e
    show loopL (waitsF_d p mach S) (waitsF_dk p mach picks dn.length S (loopL (waitsF_c p mach picks) K l)) p.threads.l 0 = _
    have hm := bmoves_eq hv
    have hx : (bPlayF p (machineF mach) (picks.take (min picks.length 100))).2.1.getD dn.length default = x := by
      rw [e, List.getD_eq_getElem?_getD, List.getElem?_append_right (Nat.le_refl _), Nat.sub_self]
      rfl
    have hn := (does_next hv h).1
    have hd : waitsF_d p mach S = fun (_ : Sl Ins) (rd : Nat → Bool) (d : Nat) => loopL (waitsF_f d) (waitsF_fk p S d rd) (passesF p (machineF mach) S) (false, false) := by
      funext _ rd d
      unfold waitsF_d
      rw [hm]
    rw [hd, waits_threads hv hm (k0 := K (dn.length + (x :: l).length, T)) fun k => ?_]
    unfold waitsF_dk
    simp only
    rw [hx, bmove_in hv h]
    unfold waitsF_v206
    rw [(bvalid_iff hn.len).2 hn]
    show loopL (waitsF_c p mach picks) K l (dn.length + 1, doesF p (machineF mach) S x) = _
    have := ih hn (dn ++ [x]) (by rw [e, List.append_assoc]; rfl)
    rw [List.length_append, List.length_singleton] at this
    rw [this, List.length_cons, Nat.add_right_comm, Nat.add_assoc]
theorem waits_true (p : Prog) (mach : UInt8) (picks : List UInt8) : waitsF p mach picks = true := by
  unfold waitsF waitsF_a
  by_cases hr : rightF p = 0
  · obtain ⟨l, T, r, h1, h2⟩ := bplay_eq hr (machine_kind mach) (picks.take (min picks.length 100))
    have hv := start_bvalid hr (machine_kind mach)
    rw [(start_valid hr).1, h2]
    rw [show (((finalF T, l, (0 : Int)).2.2 != 0) || ((0 : Int) != 0)) = false by rfl, cond_false, waits_sum]
    unfold waitsF_bk
    simp only
    rw [h2]
    have key := waits_run (picks := picks) (waitsF_ck p mach picks (0 + (p.threads.l.map (fun x => x.l.length)).sum)) r hv [] (by rw [h2]; rfl)
    refine key.trans ?_
    have hT := r.valid hv
    have hlen := r.len hv
    have hst := start_meas hr
    unfold waitsF_ck
    simp only
    rw [h2, over_end hT h1, end_many hT h1, decide_eq_true (show (((finalF T, l, (0 : Int)).2.1.length : Nat) : Int) ≤ (2 : Int) * ((0 + (p.threads.l.map (fun x => x.l.length)).sum : Nat) : Int) by
      show ((l.length : Nat) : Int) ≤ _
      omega)]
    rfl
  · rw [bplay_no hr, start_no hr]
    have : (rightF p != 0) = true := bne_iff_ne.2 hr
    rw [this]
    rfl

end Go.Proofs.YtimonjemjhecoaaGreatDoor

namespace Go.Proofs.YtimonjemjhecoaaGreatDoor
open Go.RowKit
open Go
attribute [local irreducible] wpList wpQuiet wpX Code.wp
set_option maxHeartbeats 1000000
set_option maxRecDepth 100000
set_option linter.unusedSimpArgs false
set_option linter.unusedVariables false

theorem waits_law (p : Prog) (mach : UInt8) (picks : Sl UInt8) (w : World) (hp : IsProg p w) (hpicks : SlIn 1 eByte picks w) (hg : Glob w) :
    Calls Tryz.prog 6 #[.agg p.cells.toArray, bv mach, picks.val] w fun e w' => e = .returned (.bool true) ∧ Ext w w' := by
  have h := waitsF_spec p mach picks w hp hpicks hg
  rw [waits_true] at h
  exact h


open Go.ChangeShapes Go.WideShapes Go.ChangeAt Go.WideMaps Go.WideElems Go.RowKit
theorem bufferWaits_contract (H : Type) (enc : TypeId × Value → H) (W : World) (base : Nat) (args : Array Value) (ds gs : List (DataW H)) (before : List MemPlace)
    (hval : ∀ (j : Nat) t v, Tryz.f6.params[j]? = some t → args[j]? = some v → Value.okWide Tryz.prog W .any base t v)
    (hW : DataW.Whole enc Tryz.prog Tryz.f6.params.toList Rows.bufferWaitsSpec.vars false W args.toList ds gs before) (hk : Rows.uptoSmall H (ds ++ gs) = true) (hL : laidMetH Tryz.prog laids W) :
    Calls Tryz.prog 6 args W fun e W' => ∃ v, e = .returned v ∧ Rows.bufferWaitsSpec.post enc Tryz.prog Tryz.f6 false true false false W args v W' := by
  have hW' := hW
  have hb := bulk_of hk
  obtain ⟨p, q, hA0, hV, rfl, _, _⟩ := hW
  have hA : DataW.TrodAll enc Tryz.prog W 0 (fun _ => true) true Tryz.f6.params.toList args.toList ds p := hA0
  rw [Tryz.params6] at hA hval
  obtain ⟨v0, vs0, d0, ds0, p0, q0, e0, rfl, rfl, h0, r0⟩ := trodAll_cons hA
  obtain ⟨v1, vs1, d1, ds1, p1, q1, e1, rfl, rfl, h1, r1⟩ := trodAll_cons r0
  obtain ⟨v2, vs2, d2, ds2, p2, q2, e2, rfl, rfl, h2, r2⟩ := trodAll_cons r1
  obtain ⟨z1, z2, z3⟩ := trodAll_nil r2
  obtain ⟨rfl, rfl⟩ := trodVars_none hV
  subst z2
  obtain rfl : args = #[v0, v1, v2] := by cases args; simp_all
  simp only [List.append_nil, Rows.uptoBulkAll] at hb
  clear hA0
  obtain ⟨n0, g0⟩ := h0
  obtain ⟨a0, hc0, hp0⟩ := open_prog g0 (show Rows.uptoBulk d0 ≤ 1048576 by omega)
  obtain rfl := agg_of Tryz.underlying29 (hval 0 29 v0 rfl rfl) hc0
  obtain ⟨a1, rfl⟩ := u8_arg Tryz.underlying5 (hval 1 5 v1 rfl rfl) h1
  obtain ⟨n2, g2⟩ := h2
  obtain ⟨a2, hc2, hp2⟩ := open_bytes g2 (show Rows.uptoBulk d2 ≤ 1048576 by omega)
  obtain rfl := slice_of Tryz.underlying23 (hval 2 23 v2 rfl rfl) hc2
  refine (waits_law a0 a1 a2 W hp0 hp2 (glob_of_laid hL)).mono fun e W' ⟨he, hw⟩ => ?_
  subst he
  exact ⟨_, rfl, law_post laidOut rfl Tryz.underlying4 rfl (by
    intro t ht
    rw [Tryz.params6] at ht
    have hm : t ∈ [29, 5, 23] := by simp at ht ⊢; omega
    have hall : ([29, 5, 23].all fun u => Tryz.prog.readableRec u && decide (u < Tryz.prog.types.size)) = true := by kernel_rfl
    have := List.all_eq_true.1 hall t hm
    simpa using this) (fun ds h => by
    rw [Tryz.params6] at h
    match ds, h with
    | [x0, x1, x2], _ => rfl) hW' hw⟩
theorem bufferWaits_reads (os : Os) {H : Type} (enc : TypeId × Value → H) : ∃ x, DataW.whole enc Tryz.prog ((World.doorLaid Tryz.prog 400 os).forCall (fun _ _ => 0) ⟨#[], #[.agg #[.string ⟨#[]⟩, .slice none 0 0, .slice none 0 0, .slice none 0 0, .int .u8 0, .int .u8 0, .int .u8 0, .int .u8 0, .int .u8 0, .slice none 0 0], .int .u8 0, .slice none 0 0], []⟩).memory Tryz.f6.params.toList Rows.bufferWaitsSpec.vars false (#[.agg #[.string ⟨#[]⟩, .slice none 0 0, .slice none 0 0, .slice none 0 0, .int .u8 0, .int .u8 0, .int .u8 0, .int .u8 0, .int .u8 0, .slice none 0 0], .int .u8 0, .slice none 0 0] : Array Value).toList 8 = some ([.agg [.lit (.string []), .nil, .nil, .nil, .lit (.int .u8 0), .agg [.lit (.int .u8 0), .lit (.int .u8 0), .lit (.int .u8 0), .lit (.int .u8 0), .nil]], .lit (.int .u8 0), .nil], [], x) :=
  ⟨[], by kernel_rfl⟩
theorem bufferWaits_lifted (os : Os) (started : os.Started) (H : Type) (enc : TypeId × Value → H) (F : Stop.Interp) :
    ReturnsInHanded {} Tryz.checked os 6 .any ((Rows.OpenSpec.upto Rows.bufferWaitsSpec).preRow enc Tryz.prog Tryz.f6 Rows.bufferWaitsUptoRow.domain false Rows.bufferWaitsUptoRow.laid) (((Rows.OpenSpec.upto Rows.bufferWaitsSpec).at F).post enc Tryz.prog Tryz.f6 false true false false) := by
  obtain ⟨x, hx⟩ := bufferWaits_reads os enc
  refine returnsInHanded_of_row (C := Tryz.checked) (s := Rows.OpenSpec.upto Rows.bufferWaitsSpec) own started (by kernel_rfl) Tryz.func6
    (witness_row_atRef (enc := enc) (C := Tryz.checked) false (World.doorLaid Tryz.prog 400 os) #[.agg #[.string ⟨#[]⟩, .slice none 0 0, .slice none 0 0, .slice none 0 0, .int .u8 0, .int .u8 0, .int .u8 0, .int .u8 0, .int .u8 0, .slice none 0 0], .int .u8 0, .slice none 0 0] rfl (by kernel_rfl) (by kernel_rfl) (by kernel_rfl)
      (OpenSpec.preRow_of_cond 8 hx (by kernel_rfl) (fun k hk => by cases hk; kernel_rfl) (by kernel_rfl) (door_met os _))) ?_
  intro W base args ds gs before hval hW _ hk _ hL _ _
  exact bufferWaits_contract H enc W base args ds gs before hval hW (hk _ rfl) hL
theorem bufferWaits_said : Rows.BufferWaitsUptoSaid :=
  OpenClaim.holds_of_cond 6 Tryz.f6 rfl rfl rfl rfl rfl rfl rfl ⟨rfl, rfl, rfl, rfl, rfl⟩ rfl rfl rfl rfl rfl (by kernel_rfl) Tryz.func6 (by kernel_rfl)
    (of_decide_eq_true (by kernel_rfl)) (by unfold Func.isWrapper; first | (rw [if_pos (by decide +kernel)]; kernel_rfl) | (rw [if_neg (by decide +kernel)]; exact ⟨rfl, rfl⟩))
    (fun os started H enc _ F => by rw [OpenClaim.pre_eq_preRow]; exact bufferWaits_lifted os started H enc F)
theorem bufferWaits_card : Rows.BufferWaitsUptoCardSaid :=
  Claim7.holds_tied_plain_at .later [] _ _ _ _ bufferWaits_said (fun _ h => by cases h) (by kernel_rfl) (fun _ h => by cases h) bufferWaitsUpto_row_tie rfl ⟨rfl, rfl⟩ (by kernel_rfl) rfl
    (fun f fn hf hfn => by
      obtain rfl : f = 6 := Option.some.inj ((show Tryz.prog.funcNamed "seisin/seisinlaw14.BufferWaits" = some 6 by kernel_rfl).symm.trans hf) |>.symm
      obtain rfl : fn = Tryz.f6 := (Option.some.inj (Tryz.func6.symm.trans hfn)).symm
      exact ⟨by kernel_rfl, fun j t ht => by
        rw [Tryz.params6] at ht
        have hm : t ∈ [29, 5, 23] := by simpa using Array.mem_of_getElem? ht
        have hall : ([29, 5, 23].all fun u => !Tryz.prog.wantsStandIn u) = true := by kernel_rfl
        exact (show Tryz.prog.wantsStandIn t = false by simpa using List.all_eq_true.1 hall t hm)⟩)
    (by kernel_rfl)

end Go.Proofs.YtimonjemjhecoaaGreatDoor
