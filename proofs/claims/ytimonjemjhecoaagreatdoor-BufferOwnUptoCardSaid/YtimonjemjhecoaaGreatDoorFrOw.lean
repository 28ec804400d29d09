/- Walks, printed by a program of this repository (wip/tool). -/
import Derived.Test.YtimonjemjhecoaaGreatDoorBD
import Derived.Test.YtimonjemjhecoaaGreatDoorBOw
import Derived.Test.YtimonjemjhecoaaGreatDoorFrC
import Derived.Test.YtimonjemjhecoaaGreatDoorCards
import Derived.Test.YtimonjemjhecoaaGreatDoorTie
import Derived.SevenTiedAt
namespace Go.Proofs.YtimonjemjhecoaaGreatDoor
open Go.RowKit
open Go
attribute [local irreducible] wpList wpQuiet wpX Code.wp
set_option maxHeartbeats 1000000
set_option maxRecDepth 100000
set_option linter.unusedSimpArgs false
set_option linter.unusedVariables false


theorem own_loop (B : UInt8 → (UInt8 → Bool) → Bool) (n : Nat) (hn : n ≤ 6) (h : ∀ (r : UInt8 → Bool) b, b.toNat < n → r (b + 1) = true → B b r = true) (h0 : ∀ (r : UInt8 → Bool) b, ¬ b.toNat < n → B b r = true) :
    ∀ (f : Nat) (b : UInt8), b.toNat ≤ n → n < b.toNat + f → loopF (fun r b => B b r) f b = true
  | 0, b, h1, h2 => by omega
  | f + 1, b, h1, h2 => by
    show B b (loopF (fun r b => B b r) f) = true
    rcases Nat.lt_or_ge b.toNat n with h3 | h3
    · have e : (b + 1).toNat = b.toNat + 1 := by
        rw [UInt8.toNat_add]
        have : (1 : UInt8).toNat = 1 := rfl
        omega
      exact h _ b h3 (own_loop B n hn h h0 f (b + 1) (by omega) (by omega))
    · exact h0 _ b (by omega)
theorem own_threads {α : Type} (B : α → (Nat → Bool) → Nat → Bool) (K : Nat → Bool) (k0 : Bool) (hK : ∀ k, K k = k0) (n : Nat) (h : ∀ a r d, d < n → r (d + 1) = k0 → B a r d = k0) : ∀ (l : List α) (d : Nat), d + l.length = n → loopL B K l d = k0
  | [], d, _ => hK d
  | a :: l, d, e => by
    rw [List.length_cons] at e
    exact h a _ d (by omega) (own_threads B K k0 hK n h l (d + 1) (by omega))
theorem own_a {p : Prog} {mach : UInt8} (hk : mach = 2 ∨ mach = 3) (picks : List UInt8) (pick : UInt8) : ownF_a p picks pick mach = true := by
  have hk' : mach = 1 ∨ mach = 2 ∨ mach = 3 := .inr hk
  have hm1 : mach ≠ 1 := by rcases hk with rfl | rfl <;> decide
  unfold ownF_a
  by_cases hr : rightF p = 0
  · obtain ⟨h2, hv⟩ := bbehind_yes hk' hr picks
    rw [h2]
    cases hc : ((!true) || ((((bMovesF p mach (bBehindF p mach picks).1).length : Nat) : Int) == (0 : Int)))
    · rw [cond_false]
      have hc' : ((((bMovesF p mach (bBehindF p mach picks).1).length : Nat) : Int) == (0 : Int)) = false := by simpa using hc
      have hne : (bMovesF p mach (bBehindF p mach picks).1).length ≠ 0 := by
        rw [beq_eq_false_iff_ne] at hc'
        omega
      have hat := (bmoves_at (p := p) (mach := mach) hv.len (k := pick.toNat % (bMovesF p mach (bBehindF p mach picks).1).length) (Nat.mod_lt _ (by omega))).2
      rw [bmove_in hv hat]
      unfold ownF_v67
      rw [show ((0 : Int) != 0) = false by rfl, cond_false]
      unfold ownF_v75 ownF_b ownF_v91 ownF_v95 ownF_c ownF_d ownF_dk
      dsimp only
      generalize (bMovesF p mach (bBehindF p mach picks).1).getD (pick.toNat % (bMovesF p mach (bBehindF p mach picks).1).length) default = x at *
      generalize (bBehindF p mach picks).1 = S at *
      have hpf := pass_facts hv hat
      have hL := hv.ok.locs
      have h4 := hv.ok.threads
      have hb0 : (0 : UInt8).toNat = 0 := rfl
      have st := storeF_iff (p := p) (S := S) hpf.1
      refine own_loop (fun b r => _) p.locs.l.length (by omega) (fun r b hb hr' => ?_) (fun r b hb => ?_) 256 0 (by omega) (by omega)
      · rw [show decide (b < UInt8.ofNat (((p.locs.l.length : Nat) : Int) % 256).toNat) = true from decide_eq_true (UInt8.lt_iff_toNat_lt.2 (by rw [UInt8.toNat_ofNat']; omega)), cond_true]
        have hb6 : b.toNat < 6 := by omega
        have hmem : ∀ d, d < 4 → (S.getD (138 + d) 0 == 0 && seenF S ((d : Nat) : Int) b != S.getD (36 + b.toNat) 0) = false := fun d hd => by
          cases h0 : (S.getD (138 + d) 0 == 0)
          · rfl
          · rw [sees_mem hv hb6 hd (beq_iff_eq.1 h0), bne_self_eq_false]; rfl
        cases hd : x.drain
        · simp only [Bool.not_false, Bool.and_true, Bool.false_or]
          rw [st (hpf.2.2.1 hd)]
          cases ho : ((insB p S x.thread.toNat).op == 2)
          · simp only [Bool.false_and, Bool.and_false, Bool.false_or, cond_false]
            exact own_threads _ _ true (fun _ => hr') p.threads.l.length (fun a r' d hd' hr'' => by rw [hmem d (by omega), cond_false]; exact hr'') p.threads.l 0 (by omega)
          · simp only [cond_true, Bool.true_and, Bool.and_true]
            have hthr : ∀ v : Bool, v = false → (bif v then false else loopL (fun (xrd : Sl Ins) (rd : Nat → Bool) (s_ : Nat) => bif ((((s_ : Nat) : Int) != (x.thread.toNat : Int)) && (seenF (doesF p mach S x) ((s_ : Nat) : Int) b != seenF S ((s_ : Nat) : Int) b) || S.getD (138 + s_) 0 == 0 && seenF S ((s_ : Nat) : Int) b != S.getD (36 + b.toNat) 0) then false else rd (s_ + 1)) (fun _ => r (b + 1)) p.threads.l 0) = true := fun v hv' => by
              rw [hv', cond_false]
              refine own_threads _ _ true (fun _ => hr') p.threads.l.length (fun a r' d hd' hr'' => ?_) p.threads.l 0 (by omega)
              rw [hmem d (by omega), Bool.or_false]
              cases hne' : (((d : Nat) : Int) != (x.thread.toNat : Int))
              · rw [Bool.false_and, cond_false]; exact hr''
              · have hne2 := bne_iff_ne.1 hne'
                rw [sees_other hv hat hd (beq_iff_eq.1 ho) hm1 hb6 (show d < 4 by omega) (by omega), bne_self_eq_false, Bool.and_false, cond_false]
                exact hr''
            have hs := sees_store hv hat hd (beq_iff_eq.1 ho) hm1 hb6
            unfold insB insAt at hs
            cases hl : (((p.threads.l.getD x.thread.toNat default).l.getD (S.getD (x.thread.toNat * 9) 0).toNat default).loc == b)
            · rw [if_neg (beq_eq_false_iff_ne.1 hl)] at hs
              rw [cond_false]
              exact hthr _ (by rw [hs, bne_self_eq_false])
            · rw [if_pos (beq_iff_eq.1 hl)] at hs
              rw [cond_true]
              exact hthr _ (by rw [hs, bne_self_eq_false])
        · simp only [Bool.not_true, Bool.and_false, cond_false, Bool.true_or, Bool.true_and, Bool.false_and, Bool.false_or, Bool.or_false]
          rw [sees_drain hv hat hd hb6, bne_self_eq_false, cond_false]
          exact own_threads _ _ true (fun _ => hr') p.threads.l.length (fun a r' d hd' hr'' => by rw [hmem d (by omega), cond_false]; exact hr'') p.threads.l 0 (by omega)
      · rw [show decide (b < UInt8.ofNat (((p.locs.l.length : Nat) : Int) % 256).toNat) = false from decide_eq_false (fun h => by
          have h1 := UInt8.lt_iff_toNat_lt.1 h
          rw [UInt8.toNat_ofNat'] at h1
          omega), cond_false]
    · rw [cond_true]; rfl
  · rw [bbehind_no hr]
    have : (rightF p != 0) = true := bne_iff_ne.2 hr
    rw [this]
    rfl
theorem own_true (p : Prog) (pso : Bool) (picks : List UInt8) (pick : UInt8) : ownF p pso picks pick = true := by
  unfold ownF
  cases pso
  · exact own_a (.inl rfl) picks pick
  · exact own_a (.inr rfl) picks pick

end Go.Proofs.YtimonjemjhecoaaGreatDoor

namespace Go.Proofs.YtimonjemjhecoaaGreatDoor
open Go.RowKit
open Go
attribute [local irreducible] wpList wpQuiet wpX Code.wp
set_option maxHeartbeats 1000000
set_option maxRecDepth 100000
set_option linter.unusedSimpArgs false
set_option linter.unusedVariables false

theorem own_law (p : Prog) (pso : Bool) (picks : Sl UInt8) (pick : UInt8) (w : World) (hp : IsProg p w) (hpicks : SlIn 1 eByte picks w) (hg : Glob w) :
    Calls Tryz.prog 3 #[.agg p.cells.toArray, .bool pso, picks.val, bv pick] w fun e w' => e = .returned (.bool true) ∧ Ext w w' := by
  have h := ownF_spec p pso picks pick w hp hpicks hg
  rw [own_true] at h
  exact h


open Go.ChangeShapes Go.WideShapes Go.ChangeAt Go.WideMaps Go.WideElems Go.RowKit
theorem bufferOwn_contract (H : Type) (enc : TypeId × Value → H) (W : World) (base : Nat) (args : Array Value) (ds gs : List (DataW H)) (before : List MemPlace)
    (hval : ∀ (j : Nat) t v, Tryz.f3.params[j]? = some t → args[j]? = some v → Value.okWide Tryz.prog W .any base t v)
    (hW : DataW.Whole enc Tryz.prog Tryz.f3.params.toList Rows.bufferOwnSpec.vars false W args.toList ds gs before) (hk : Rows.uptoSmall H (ds ++ gs) = true) (hL : laidMetH Tryz.prog laids W) :
    Calls Tryz.prog 3 args W fun e W' => ∃ v, e = .returned v ∧ Rows.bufferOwnSpec.post enc Tryz.prog Tryz.f3 false true false false W args v W' := by
  have hW' := hW
  have hb := bulk_of hk
  obtain ⟨p, q, hA0, hV, rfl, _, _⟩ := hW
  have hA : DataW.TrodAll enc Tryz.prog W 0 (fun _ => true) true Tryz.f3.params.toList args.toList ds p := hA0
  rw [Tryz.params3] at hA hval
  obtain ⟨v0, vs0, d0, ds0, p0, q0, e0, rfl, rfl, h0, r0⟩ := trodAll_cons hA
  obtain ⟨v1, vs1, d1, ds1, p1, q1, e1, rfl, rfl, h1, r1⟩ := trodAll_cons r0
  obtain ⟨v2, vs2, d2, ds2, p2, q2, e2, rfl, rfl, h2, r2⟩ := trodAll_cons r1
  obtain ⟨v3, vs3, d3, ds3, p3, q3, e3, rfl, rfl, h3, r3⟩ := trodAll_cons r2
  obtain ⟨z1, z2, z3⟩ := trodAll_nil r3
  obtain ⟨rfl, rfl⟩ := trodVars_none hV
  subst z2
  obtain rfl : args = #[v0, v1, v2, v3] := by cases args; simp_all
  simp only [List.append_nil, Rows.uptoBulkAll] at hb
  clear hA0
  obtain ⟨n0, g0⟩ := h0
  obtain ⟨a0, hc0, hp0⟩ := open_prog g0 (show Rows.uptoBulk d0 ≤ 1048576 by omega)
  obtain rfl := agg_of Tryz.underlying29 (hval 0 29 v0 rfl rfl) hc0
  obtain ⟨a1, rfl⟩ := bool_arg Tryz.underlying4 (hval 1 4 v1 rfl rfl) h1
  obtain ⟨n2, g2⟩ := h2
  obtain ⟨a2, hc2, hp2⟩ := open_bytes g2 (show Rows.uptoBulk d2 ≤ 1048576 by omega)
  obtain rfl := slice_of Tryz.underlying23 (hval 2 23 v2 rfl rfl) hc2
  obtain ⟨a3, rfl⟩ := u8_arg Tryz.underlying5 (hval 3 5 v3 rfl rfl) h3
  refine (own_law a0 a1 a2 a3 W hp0 hp2 (glob_of_laid hL)).mono fun e W' ⟨he, hw⟩ => ?_
  subst he
  exact ⟨_, rfl, law_post laidOut rfl Tryz.underlying4 rfl (by
    intro t ht
    rw [Tryz.params3] at ht
    have hm : t ∈ [29, 4, 23, 5] := by simp at ht ⊢; omega
    have hall : ([29, 4, 23, 5].all fun u => Tryz.prog.readableRec u && decide (u < Tryz.prog.types.size)) = true := by kernel_rfl
    have := List.all_eq_true.1 hall t hm
    simpa using this) (fun ds h => by
    rw [Tryz.params3] at h
    match ds, h with
    | [x0, x1, x2, x3], _ => rfl) hW' hw⟩
theorem bufferOwn_reads (os : Os) {H : Type} (enc : TypeId × Value → H) : ∃ x, DataW.whole enc Tryz.prog ((World.doorLaid Tryz.prog 400 os).forCall (fun _ _ => 0) ⟨#[], #[.agg #[.string ⟨#[]⟩, .slice none 0 0, .slice none 0 0, .slice none 0 0, .int .u8 0, .int .u8 0, .int .u8 0, .int .u8 0, .int .u8 0, .slice none 0 0], .bool false, .slice none 0 0, .int .u8 0], []⟩).memory Tryz.f3.params.toList Rows.bufferOwnSpec.vars false (#[.agg #[.string ⟨#[]⟩, .slice none 0 0, .slice none 0 0, .slice none 0 0, .int .u8 0, .int .u8 0, .int .u8 0, .int .u8 0, .int .u8 0, .slice none 0 0], .bool false, .slice none 0 0, .int .u8 0] : Array Value).toList 8 = some ([.agg [.lit (.string []), .nil, .nil, .nil, .lit (.int .u8 0), .agg [.lit (.int .u8 0), .lit (.int .u8 0), .lit (.int .u8 0), .lit (.int .u8 0), .nil]], .lit (.bool false), .nil, .lit (.int .u8 0)], [], x) :=
  ⟨[], by kernel_rfl⟩
theorem bufferOwn_lifted (os : Os) (started : os.Started) (H : Type) (enc : TypeId × Value → H) (F : Stop.Interp) :
    ReturnsInHanded {} Tryz.checked os 3 .any ((Rows.OpenSpec.upto Rows.bufferOwnSpec).preRow enc Tryz.prog Tryz.f3 Rows.bufferOwnUptoRow.domain false Rows.bufferOwnUptoRow.laid) (((Rows.OpenSpec.upto Rows.bufferOwnSpec).at F).post enc Tryz.prog Tryz.f3 false true false false) := by
  obtain ⟨x, hx⟩ := bufferOwn_reads os enc
  refine returnsInHanded_of_row (C := Tryz.checked) (s := Rows.OpenSpec.upto Rows.bufferOwnSpec) own started (by kernel_rfl) Tryz.func3
    (witness_row_atRef (enc := enc) (C := Tryz.checked) false (World.doorLaid Tryz.prog 400 os) #[.agg #[.string ⟨#[]⟩, .slice none 0 0, .slice none 0 0, .slice none 0 0, .int .u8 0, .int .u8 0, .int .u8 0, .int .u8 0, .int .u8 0, .slice none 0 0], .bool false, .slice none 0 0, .int .u8 0] rfl (by kernel_rfl) (by kernel_rfl) (by kernel_rfl)
      (OpenSpec.preRow_of_cond 8 hx (by kernel_rfl) (fun k hk => by cases hk; kernel_rfl) (by kernel_rfl) (door_met os _))) ?_
  intro W base args ds gs before hval hW _ hk _ hL _ _
  exact bufferOwn_contract H enc W base args ds gs before hval hW (hk _ rfl) hL
theorem bufferOwn_said : Rows.BufferOwnUptoSaid :=
  OpenClaim.holds_of_cond 3 Tryz.f3 rfl rfl rfl rfl rfl rfl rfl ⟨rfl, rfl, rfl, rfl, rfl⟩ rfl rfl rfl rfl rfl (by kernel_rfl) Tryz.func3 (by kernel_rfl)
    (of_decide_eq_true (by kernel_rfl)) (by unfold Func.isWrapper; first | (rw [if_pos (by decide +kernel)]; kernel_rfl) | (rw [if_neg (by decide +kernel)]; exact ⟨rfl, rfl⟩))
    (fun os started H enc _ F => by rw [OpenClaim.pre_eq_preRow]; exact bufferOwn_lifted os started H enc F)
theorem bufferOwn_card : Rows.BufferOwnUptoCardSaid :=
  Claim7.holds_tied_plain_at .later [] _ _ _ _ bufferOwn_said (fun _ h => by cases h) (by kernel_rfl) (fun _ h => by cases h) bufferOwnUpto_row_tie rfl ⟨rfl, rfl⟩ (by kernel_rfl) rfl
    (fun f fn hf hfn => by
      obtain rfl : f = 3 := Option.some.inj ((show Tryz.prog.funcNamed "seisin/seisinlaw14.BufferOwn" = some 3 by kernel_rfl).symm.trans hf) |>.symm
      obtain rfl : fn = Tryz.f3 := (Option.some.inj (Tryz.func3.symm.trans hfn)).symm
      exact ⟨by kernel_rfl, fun j t ht => by
        rw [Tryz.params3] at ht
        have hm : t ∈ [29, 4, 23, 5] := by simpa using Array.mem_of_getElem? ht
        have hall : ([29, 4, 23, 5].all fun u => !Tryz.prog.wantsStandIn u) = true := by kernel_rfl
        exact (show Tryz.prog.wantsStandIn t = false by simpa using List.all_eq_true.1 hall t hm)⟩)
    (by kernel_rfl)

end Go.Proofs.YtimonjemjhecoaaGreatDoor
