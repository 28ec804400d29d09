/- Walks, printed by a program of this repository (wip/tool). -/
import Derived.Test.YtimonjemjhecoaaGreatDoorBSn
namespace Go.Proofs.YtimonjemjhecoaaGreatDoor
open Go.RowKit
open Go
attribute [local irreducible] wpList wpQuiet wpX Code.wp
set_option maxHeartbeats 1000000
set_option maxRecDepth 100000
set_option linter.unusedSimpArgs false
set_option linter.unusedVariables false

theorem passes_at' {p : Prog} {mach : UInt8} {S : List UInt8} {l : List Pass} (hl : l = passesF p mach S) {k : Nat} (hk : k < l.length) : l.getD k default ∈ passesF p mach S := by
  subst hl
  exact passes_at hk

def bPlayF_a (p : Prog) (mach : UInt8) (picks : List UInt8) (ra : ((List Pass) × (List Pass) × (List UInt8)) → ((List UInt8) × (List Pass) × Int)) : ((List Pass) × (List Pass) × (List UInt8)) → (List UInt8) × (List Pass) × Int := fun s_ => match s_ with | (a12, arow1, ab3) => bif (decide ((0 : Int) < (a12.length : Int))) then (bif (decide ((arow1.length : Int) < (picks.length : Int))) then (ra ((passesF p mach (doesF p mach ab3 (a12.getD ((picks.getD (arow1.length) default).toNat % a12.length) default))), (arow1 ++ [(a12.getD ((picks.getD (arow1.length) default).toNat % a12.length) default)]), (doesF p mach ab3 (a12.getD ((picks.getD (arow1.length) default).toNat % a12.length) default)))) else (ra ((passesF p mach (doesF p mach ab3 (a12.getD 0 default))), (arow1 ++ [(a12.getD 0 default)]), (doesF p mach ab3 (a12.getD 0 default))))) else ((finalF ab3), arow1, (0 : Int))
def bPlayF (p : Prog) (mach : UInt8) (picks : List UInt8) : (List UInt8) × (List Pass) × Int :=
  bif (((rightF p) != (0 : Int)) || (!(knownF mach))) then ((List.replicate 38 (0 : UInt8)), [], (2 : Int)) else (loopF (bPlayF_a p mach picks) 97 ((passesF p mach ((startF p).1)), ([] : List Pass), (startF p).1))
theorem bplay_len {p : Prog} {mach : UInt8} {l : List UInt8} : ∀ (n : Nat) (s : List UInt8) (o : List Pass), BValid p mach s → bmeas p s < n → ((loopF (bPlayF_a p mach l) n (passesF p mach s, o, s)).1).length = 38
  | 0, s, o, hv, h => by omega
  | n + 1, s, o, hv, h => by
    have key : ∀ k, k < (passesF p mach s).length → ∀ o', ((loopF (bPlayF_a p mach l) n (passesF p mach (doesF p mach s ((passesF p mach s).getD k default)), o', doesF p mach s ((passesF p mach s).getD k default))).1).length = 38 := fun k hk o' => by
      have hm := does_next hv (passes_at hk)
      exact bplay_len n _ _ hm.1 (by have := hm.2; omega)
    show (bPlayF_a p mach l (loopF (bPlayF_a p mach l) n) (passesF p mach s, o, s)).1.length = 38
    simp only [bPlayF_a]
    cases hc : decide ((0 : Int) < ((passesF p mach s).length : Nat)) <;> simp only [cond_true, cond_false]
    · exact finalF_len s hv.len
    · have hc := of_decide_eq_true hc
      cases decide ((o.length : Int) < (l.length : Int)) <;> simp only [cond_true, cond_false]
      · exact key _ (by omega) _
      · exact key _ (Nat.mod_lt _ (by omega)) _

@[simp] theorem bPlayF_len0 (p : Prog) (mach : UInt8) (picks : List UInt8) : ((bPlayF p mach picks).1).length = 38 := by
  unfold bPlayF
  cases hc : ((rightF p != (0 : Int)) || (!(knownF mach))) <;> simp only [cond_true, cond_false]
  · have h1 : rightF p = 0 := by simpa using orl hc
    have h2 := (known_iff mach).1 (by simpa using orr hc)
    exact bplay_len _ _ _ (start_bvalid h1 h2) (by have := (start_bvalid h1 h2).meas_le; omega)
  · simp

theorem bPlayF_spec (p : Prog) (mach : UInt8) (picks : Sl UInt8) (w : World) (hp : (IsProg p) w) (hpicks : (SlIn 1 eByte picks) w) (hg_ : Glob w) :
    Calls Tryz.prog 17 #[.agg p.cells.toArray, bv mach, picks.val] w fun e w' => ∃ x : (Option Addr × Nat), e = .returned (.tuple #[.agg (enc (bPlayF p mach picks.l).1).toArray, (⟨x.1, x.2, (bPlayF p mach picks.l).2.1⟩ : Sl Pass).val, iv (bPlayF p mach picks.l).2.2]) ∧ Ext w w' ∧ Fresh w w' (SlIn 3 Pass.cells (⟨x.1, x.2, (bPlayF p mach picks.l).2.1⟩ : Sl Pass)) := by
 have H := Own.start_ro w [IsProg p, SlIn 1 eByte picks, Glob] (List.forall_mem_cons.2 ⟨fun w' hw => hp.keep hw, List.forall_mem_cons.2 ⟨fun w' hw => hpicks.keep hw, List.forall_mem_cons.2 ⟨fun w' hw => hg_.keep hw, fun _ h => by cases h⟩⟩⟩)
 have hcp1 := hp.locs.2.2
 have hcp2 := hp.init.2.2
 have hcp3 := hp.threads.2.2
 have hcpicks := hpicks.2.2
 go_enter Tryz.func17, Tryz.ntmps17
 refine wsr ?_
 refine wl_box H rfl rfl (v := .agg (p.cells).toArray) rfl ?_
 clear H; intro b1 w1 hnb1 H; dsimp only [Value.cells] at H
 simp only [N]
 refine wl_alloc H rfl rfl zv64 ?_
 clear H; intro b2 w2 hnb2 H; dsimp only [Value.cells] at H
 simp only [N]
 simp only [enc_replicate] at H
 refine wasg ((.slice none 0 0)) ?_; simp only [N]
 refine wasg (iv (0 : Int)) ?_; simp only [N]
 refine wpList_nil ?_
 refine wp_seq ?_; refine wsr ?_
 refine wr (rp_loadN H 1 rfl rfl rfl Tryz.underlying29 rfl sz29 (Nat.le_of_ble_eq_true rfl) (cs' := p.cells) rfl) ?_; simp only [N]
 refine wl_callE H rfl (rc_go Tryz.func11 (by kernel_rfl) rfl) (rightF_spec p _ (H.ro_at 0 rfl) (H.ro_at 2 rfl)) ?_
 clear H; intro w3 H
 simp only [N]
 refine wr (rp_int_neq rfl (rightF p) (0 : Int) rfl rfl) ?_; simp only [N]
 refine wmv (.bool ((rightF p) != (0 : Int))) ?_; simp only [N]
 refine wl_g (wn_f rfl rfl) (v := bv mach) (fun hg => rp_move rfl (v := bv mach) rfl) ?_; simp only [N]
 refine wl_gE H (wn_f rfl rfl) (fun hg => fun w => by simp only [gv_t hg]; exact rc_go Tryz.func40 (by kernel_rfl) rfl w) (v := .bool (knownF mach)) (fun hg => by have x2 : (rightF p) = (0 : Int) := (by simpa using (notT hg)); exact (knownF_spec mach _ )) ?_
 clear H; intro w4 H
 simp only [N]
 refine wl_g (wn_f rfl rfl) (v := .bool (!(knownF mach))) (fun hg => by have x3 : (rightF p) = (0 : Int) := (by simpa using (notT hg)); exact (by simp only [gv_t hg]; exact rp_not rfl (knownF mach) rfl)) ?_; simp only [N]
 refine wr (rp_pickO rfl (p := ((rightF p) != (0 : Int))) (q := (!(knownF mach))) rfl rfl rfl) ?_; simp only [N]
 refine wpList_nil ?_
 refine wp_cond_split rfl (fun hc1 => ?_) (fun hc1 => ?_)
 · --T 1
  refine wsr ?_
  refine wr (rp_build rfl (vs := []) rfl (cs := (enc (List.replicate 38 (0 : UInt8))).toArray) (by kernel_rfl)) ?_; simp only [N]
  refine wl_storeA H 0 rfl rfl rfl rfl (List.replicate 38 (0 : UInt8)) rfl sz64 ?_
  clear H; intro w5 H; simp only [M] at H
  simp only [N]
  refine wasg ((.slice none 0 0)) ?_; simp only [N]
  refine wasg (iv (2 : Int)) ?_; simp only [N]
  refine wpList_nil ?_
  refine wp_ret ?_
  try simp only [Exit.inBlock, Exit.then, cutP]
  refine bodyPost_ret (results3 rfl (rv_aggA H 0 rfl rfl Tryz.underlying64 rfl sz64) (rv_tmp rfl) (rv_tmp rfl)) rfl ?_
  have hF : (bPlayF p mach picks.l) = ((List.replicate 38 (0 : UInt8)), [], (2 : Int)) := bt hc1
  rw [hF]
  exact ⟨(none, 0), rfl, H.ext, (fun _ _ => slin_nil Pass.cells_n)⟩
 · --F 1
  have hc1N4 : (rightF p) = (0 : Int) := (by simpa using (orl hc1))
  have hbv0 : BValid p mach (startF p).1 := start_bvalid hc1N4 ((known_iff mach).1 (by simpa using orr hc1))
  have hbt0 := hbv0.ok.threads.2
  have hbk0 := fun t ht => (hbv0.most (t := t) ht).1
  refine wp_skip ?_
  refine wsr ?_
  refine wr (rp_loadN H 1 rfl rfl rfl Tryz.underlying29 rfl sz29 (Nat.le_of_ble_eq_true rfl) (cs' := p.cells) rfl) ?_; simp only [N]
  refine wl_callE H rfl (rc_go Tryz.func18 (by kernel_rfl) rfl) (startF_spec p _ (H.ro_at 0 rfl) (H.ro_at 2 rfl)) ?_
  clear H; intro w6 H
  simp only [N]
  refine wmv (.tuple #[.agg (enc (startF p).1).toArray, iv (startF p).2]) ?_; simp only [N]
  refine wr (rp_extract rfl rfl (v := .agg (enc (startF p).1).toArray) rfl) ?_; simp only [N]
  refine wr (rp_extract rfl rfl (v := iv (startF p).2) rfl) ?_; simp only [N]
  refine wl_alloc H rfl rfl zv41 ?_
  clear H; intro b3 w7 hnb3 H; dsimp only [Value.cells] at H
  simp only [N]
  simp only [enc_replicate] at H
  refine wl_storeA H 0 rfl rfl rfl rfl (startF p).1 rfl sz41 ?_
  clear H; intro w8 H; simp only [M] at H
  simp only [N]
  refine wasg (iv (startF p).2) ?_; simp only [N]
  refine wnr ?_
  refine wasg ((.slice none 0 0)) ?_; simp only [N]
  refine wpList_nil ?_
  refine wp_seq ?_; refine wsr ?_
  refine wr (rp_loadN H 2 rfl rfl rfl Tryz.underlying29 rfl sz29 (Nat.le_of_ble_eq_true rfl) (cs' := p.cells) rfl) ?_; simp only [N]
  refine wmv (bv mach) ?_; simp only [N]
  refine wr (rp_loadWA H 0 rfl rfl rfl Tryz.underlying41 rfl sz41 rfl) ?_; simp only [N]
  refine wl_callFA H rfl (rc_go Tryz.func28 (by kernel_rfl) rfl) (passesF_spec p mach ((startF p).1) (by first | omega | simp [-List.reduceReplicate] <;> omega | simp [*, -List.reduceReplicate] <;> omega) (by first | assumption | omega) (by first | assumption | omega) _ (H.ro_at 0 rfl)) ?_
  clear H; intro x1_ w9 H
  simp only [N]
  have hcx1_0 : (passesF p mach ((startF p).1)).length ≤ 140737488355328 := (FreshAt.now (H.ro_at 0 rfl)).2.2.1
  refine wasg ((⟨x1_.1, x1_.2, (passesF p mach ((startF p).1))⟩ : Sl Pass).val) ?_; simp only [N]
  refine wpList_nil ?_
  refine wp_block ?_
  have H := H.rowNilT Pass.cells 50 3
  replace H := H.infer (SlIn 3 Pass.cells (⟨x1_.1, x1_.2, (passesF p mach ((startF p).1))⟩ : Sl Pass)) (fun _ hR => (FreshAt.now (ro_mem hR 0 rfl)))
  refine wp_loopX (fun m' a' w' => ∃ (a12 : Sl Pass) (arow1 : List Pass) (ab3 : List UInt8) (u13 u32 u33 u34 u35 u36 u37 u38 u39 u40 u41 u42 u43 u44 u45 u46 u47 u48 u49 u50 u51 u52 u53 u54 u55 u56 u57 u58 u59 u60 u61 u62 u63 u64 u65 u66 u67 avrow1 : Value) (na : Nat), a' = ⟨#[.agg (p.cells).toArray, bv mach, picks.val, .pointer (some ⟨b1, 0, none⟩), uU, uU, .pointer (some ⟨b2, 0, none⟩), (.slice none 0 0), iv (0 : Int), .pointer (some ⟨b3, 0, none⟩), iv (startF p).2, avrow1, a12.val, u13, .agg (p.cells).toArray, iv (rightF p), .bool ((rightF p) != (0 : Int)), .bool ((rightF p) != (0 : Int)), (gv (!((rightF p) != (0 : Int))) (bv mach)), (gv (!((rightF p) != (0 : Int))) (.bool (knownF mach))), (gv (!((rightF p) != (0 : Int))) (.bool (!(knownF mach)))), .bool (((rightF p) != (0 : Int)) || (!(knownF mach))), uU, .tuple #[.agg (enc (startF p).1).toArray, iv (startF p).2], .agg (p.cells).toArray, .tuple #[.agg (enc (startF p).1).toArray, iv (startF p).2], .agg (enc (startF p).1).toArray, iv (startF p).2, .agg (p.cells).toArray, bv mach, .agg (enc (startF p).1).toArray, (⟨x1_.1, x1_.2, (passesF p mach ((startF p).1))⟩ : Sl Pass).val, u32, u33, u34, u35, u36, u37, u38, u39, u40, u41, u42, u43, u44, u45, u46, u47, u48, u49, u50, u51, u52, u53, u54, u55, u56, u57, u58, u59, u60, u61, u62, u63, u64, u65, u66, u67, uU, uU, uU], []⟩ ∧ Own w [] [SlIn 3 Pass.cells a12, FreshAt w (SlIn 3 Pass.cells (⟨x1_.1, x1_.2, (passesF p mach ((startF p).1))⟩ : Sl Pass)), IsProg p, SlIn 1 eByte picks, Glob] [.row avrow1 50 3 arow1.length (arow1.flatMap Pass.cells), .blk b3 (.cells (enc ab3).toArray 41 (0, 0)), .blk b2 (.cells (enc (List.replicate 38 (0 : UInt8))).toArray 64 (0, 0)), .blk b1 (.cells (p.cells).toArray 29 (0, 0))] w' ∧ (ab3.length = 142) ∧ (BValid p mach ab3) ∧ (a12.l = passesF p mach ab3) ∧ (arow1.length + bmeas p ab3 ≤ 96) ∧ bmeas p ab3 < na ∧ (bPlayF p mach picks.l) = loopF (bPlayF_a p mach picks.l) na (a12.l, arow1, ab3) ∧ m' = bmeas p ab3) _ ⟨(⟨x1_.1, x1_.2, (passesF p mach ((startF p).1))⟩ : Sl Pass), ([] : List Pass), (startF p).1, _, _, _, _, _, _, _, _, _, _, _, _, _, _, _, _, _, _, _, _, _, _, _, _, _, _, _, _, _, _, _, _, _, _, _, _, _, (.slice none 0 0), 97, rfl, H, (by first | omega | simp [-List.reduceReplicate] <;> omega | simp [*, -List.reduceReplicate] <;> omega), (by exact hbv0), (by rfl), (by have := hbv0.meas_le; simp; omega), (by have := hbv0.meas_le; omega), bf hc1, rfl⟩ ?_
  clear H
  rintro _ _ w10 ⟨a12, arow1, ab3, u13, u32, u33, u34, u35, u36, u37, u38, u39, u40, u41, u42, u43, u44, u45, u46, u47, u48, u49, u50, u51, u52, u53, u54, u55, u56, u57, u58, u59, u60, u61, u62, u63, u64, u65, u66, u67, avrow1, na, rfl, H, hia0, hia1, hia2, hia3, hma, hFa, rfl⟩
  have hca12 := (H.ro_at 0 rfl).2.2
  obtain ⟨na, rfl⟩ : ∃ q, na = q + 1 := ⟨na - 1, by omega⟩
  obtain ⟨ra, hra⟩ : ∃ r, r = loopF (bPlayF_a p mach picks.l) na := ⟨_, rfl⟩
  have hFa : (bPlayF p mach picks.l) = bPlayF_a p mach picks.l ra (a12.l, arow1, ab3) := hFa.trans (by rw [hra]; rfl)
  refine wp_seq ?_; refine wsr ?_
  refine wmv (a12.val) ?_; simp only [N]
  refine wr (rp_len_sl (s := a12) Tryz.underlying44 rfl) ?_; simp only [N]
  refine wr (rp_int_gtr rfl (a12.l.length : Int) (0 : Int) rfl rfl) ?_; simp only [N]
  refine wpList_nil ?_
  refine wp_cond_split rfl (fun hc2 => ?_) (fun hc2 => ?_)
  · --T 2
   have hc2N5 : (0 : Int) < (a12.l.length : Int) := (by simpa using hc2)
   refine wp_skip ?_
   refine wp_seq ?_; refine wp_block ?_
   refine wsr ?_
   refine wmv (a12.val) ?_; simp only [N]
   refine wr (rp_indexAddr_sl (H.ro_at 0 rfl) rfl Tryz.underlying44 sz50 rfl 0 rfl (by omega)) ?_; simp only [N]
   refine wr (rp_loadN_sl (H.ro_at 0 rfl) 0 (by omega) rfl Tryz.underlying50 rfl rfl sz50) ?_; simp only [N]
   refine wl_alloc H rfl rfl zv50 ?_
   clear H; intro b4 w11 hnb4 H; dsimp only [Value.cells] at H
   simp only [N]
   refine wl_storeV H 0 rfl rfl rfl rfl (((a12.l.getD 0 default).cells).toArray) rfl (Pass.cells_one _) sz50 ?_
   clear H; intro w12 H; simp only [M] at H
   simp only [N]
   refine wpList_nil ?_
   refine wp_seq ?_; refine wsr ?_
   refine wmv avrow1 ?_; simp only [N]
   refine wr (rp_len_row H 1 rfl Tryz.underlying44 rfl) ?_; simp only [N]
   refine wmv (picks.val) ?_; simp only [N]
   refine wr (rp_len_sl (s := picks) Tryz.underlying23 rfl) ?_; simp only [N]
   refine wr (rp_int_lss rfl (arow1.length : Int) (picks.l.length : Int) rfl rfl) ?_; simp only [N]
   refine wpList_nil ?_
   refine wp_cond_split rfl (fun hc3 => ?_) (fun hc3 => ?_)
   · --T 3
    have hc3N6 : (arow1.length : Int) < (picks.l.length : Int) := (by simpa using hc3)
    refine wp_region_lit ?_; refine wmv (a12.val) ?_; simp only [N]
    refine wmv (picks.val) ?_; simp only [N]
    refine wmv avrow1 ?_; simp only [N]
    refine wr (rp_len_row H 1 rfl Tryz.underlying44 rfl) ?_; simp only [N]
    refine wr (rp_indexAddr_sl (H.ro_at 3 rfl) rfl Tryz.underlying23 sz5 rfl arow1.length rfl (by omega)) ?_; simp only [N]
    refine wr (rp_load1_sl (H.ro_at 3 rfl) (arow1.length) (by omega) rfl Tryz.underlying5 rfl 0 rfl (by omega) (v := bv (picks.l.getD (arow1.length) default)) rfl) ?_; simp only [N]
    refine wr (rp_u8_to_int rfl Tryz.underlying5 Tryz.underlying3 (picks.l.getD (arow1.length) default) rfl) ?_; simp only [N]
    refine wmv (a12.val) ?_; simp only [N]
    refine wr (rp_len_sl (s := a12) Tryz.underlying44 rfl) ?_; simp only [N]
    have hrem56 : ((picks.l.getD (arow1.length) default).toNat % a12.l.length) < a12.l.length := Nat.mod_lt _ (by omega)
    refine wr (rp_int_rem rfl ((picks.l.getD (arow1.length) default).toNat) a12.l.length rfl rfl (by omega)) ?_; simp only [N]
    refine wr (rp_indexAddr_sl (H.ro_at 0 rfl) rfl Tryz.underlying44 sz50 rfl ((picks.l.getD (arow1.length) default).toNat % a12.l.length) rfl (by omega)) ?_; simp only [N]
    refine wr (rp_loadN_sl (H.ro_at 0 rfl) ((picks.l.getD (arow1.length) default).toNat % a12.l.length) (by omega) rfl Tryz.underlying50 rfl rfl sz50) ?_; simp only [N]
    refine wl_storeV H 0 rfl rfl rfl rfl (((a12.l.getD ((picks.l.getD (arow1.length) default).toNat % a12.l.length) default).cells).toArray) rfl (Pass.cells_one _) sz50 ?_
    clear H; intro w13 H; simp only [M] at H
    simp only [N]
    refine wnr ?_
    refine wr (rp_loadN H 4 rfl rfl rfl Tryz.underlying29 rfl sz29 (Nat.le_of_ble_eq_true rfl) (cs' := p.cells) rfl) ?_; simp only [N]
    refine wmv (bv mach) ?_; simp only [N]
    refine wr (rp_loadWA H 2 rfl rfl rfl Tryz.underlying41 rfl sz41 rfl) ?_; simp only [N]
    refine wr (rp_loadN H 0 rfl rfl rfl Tryz.underlying50 rfl sz50 (Nat.le_of_ble_eq_true rfl) (cs' := (a12.l.getD ((picks.l.getD (arow1.length) default).toNat % a12.l.length) default).cells) rfl) ?_; simp only [N]
    have hdv1 : BValid p mach ab3 := by assumption
    have hdx1 : (a12.l.getD ((picks.l.getD (arow1.length) default).toNat % a12.l.length) default) ∈ passesF p mach ab3 := by exact passes_at' hia2 (by first | omega | exact Nat.mod_lt _ (by omega))
    have hnx1 := does_next hdv1 hdx1
    have hnv1 := hnx1.1
    have hnl1 := hnv1.len
    have hnl1b := hnl1
    try simp [-List.reduceReplicate] at hnl1b
    have hnm1 := hnx1.2
    have hnt1 := hnv1.ok.threads.2
    have hnk1 := fun t ht => (hnv1.most (t := t) ht).1
    refine wl_callE H rfl (rc_go Tryz.func39 (by kernel_rfl) rfl) (doesF_spec p mach ab3 (a12.l.getD ((picks.l.getD (arow1.length) default).toNat % a12.l.length) default) (by first | omega | simp [-List.reduceReplicate] <;> omega | simp [*, -List.reduceReplicate] <;> omega) (by assumption) (by assumption) _ (H.ro_at 2 rfl) (H.ro_at 4 rfl)) ?_
    clear H; intro w14 H
    simp only [N]
    refine wl_storeA H 2 rfl rfl rfl rfl (doesF p mach ab3 (a12.l.getD ((picks.l.getD (arow1.length) default).toNat % a12.l.length) default)) rfl sz41 ?_
    clear H; intro w15 H; simp only [M] at H
    simp only [N]
    refine wpList_nil ?_
    refine wp_region_lit ?_; refine wmv avrow1 ?_; simp only [N]
    refine wr (rp_loadN H 0 rfl rfl rfl Tryz.underlying50 rfl sz50 (Nat.le_of_ble_eq_true rfl) (cs' := (a12.l.getD ((picks.l.getD (arow1.length) default).toNat % a12.l.length) default).cells) rfl) ?_; simp only [N]
    refine wl_xallocF H rfl (xa_buildSlice rfl Tryz.underlying44 sz50 zv50 (by decide) (by decide) (vs := [(0, .agg ((a12.l.getD ((picks.l.getD (arow1.length) default).toNat % a12.l.length) default).cells).toArray)]) rfl (cs := #[bv (a12.l.getD ((picks.l.getD (arow1.length) default).toNat % a12.l.length) default).thread, .bool (a12.l.getD ((picks.l.getD (arow1.length) default).toNat % a12.l.length) default).drain, bv (a12.l.getD ((picks.l.getD (arow1.length) default).toNat % a12.l.length) default).loc]) (by kernel_rfl)) ?_
    clear H; intro b5 w16 hnb5 H
    simp only [N]
    refine wl_appendT Pass.cells H 1 rfl Tryz.underlying44 sz50 zv50 by50 rfl (by decide) rfl rfl (ad := ⟨b5, 0, none⟩) (m := 1) (c := 1) rfl [(a12.l.getD ((picks.l.getD (arow1.length) default).toNat % a12.l.length) default)] rfl Pass.cells_n (fun j u hu => cell_of_news (H.ro_at 0 rfl) j u hu) (by intro x; simp [Pass.cells, Value.oneCell']) (by first | omega | (simp only [List.length_append, List.length_cons, List.length_nil]; omega)) (by first | omega | (simp only [List.length_append, List.length_cons, List.length_nil]; omega)) (by simp) ?_
    clear H; intro b6 w17 H; simp only [M] at H
    simp only [N]
    refine wasg b6 ?_; simp only [N]
    refine wpList_nil ?_
    refine wp_region_lit ?_; refine wr (rp_loadN H 4 rfl rfl rfl Tryz.underlying29 rfl sz29 (Nat.le_of_ble_eq_true rfl) (cs' := p.cells) rfl) ?_; simp only [N]
    refine wmv (bv mach) ?_; simp only [N]
    refine wr (rp_loadWA H 2 rfl rfl rfl Tryz.underlying41 rfl sz41 rfl) ?_; simp only [N]
    refine wl_callFA H rfl (rc_go Tryz.func28 (by kernel_rfl) rfl) (passesF_spec p mach (doesF p mach ab3 (a12.l.getD ((picks.l.getD (arow1.length) default).toNat % a12.l.length) default)) (by first | omega | simp [-List.reduceReplicate] <;> omega | simp [*, -List.reduceReplicate] <;> omega) (by first | assumption | omega) (by first | assumption | omega) _ (H.ro_at 3 rfl)) ?_
    clear H; intro x2_ w18 H
    simp only [N]
    have hcx2_0 : (passesF p mach (doesF p mach ab3 (a12.l.getD ((picks.l.getD (arow1.length) default).toNat % a12.l.length) default))).length ≤ 140737488355328 := (FreshAt.now (H.ro_at 0 rfl)).2.2.1
    refine wasg ((⟨x2_.1, x2_.2, (passesF p mach (doesF p mach ab3 (a12.l.getD ((picks.l.getD (arow1.length) default).toNat % a12.l.length) default)))⟩ : Sl Pass).val) ?_; simp only [N]
    refine wpList_nil ?_
    replace H := H.infer (SlIn 3 Pass.cells (⟨x2_.1, x2_.2, (passesF p mach (doesF p mach ab3 (a12.l.getD ((picks.l.getD (arow1.length) default).toNat % a12.l.length) default)))⟩ : Sl Pass)) (fun _ hR => (FreshAt.now (ro_mem hR 0 rfl)))
    replace H := H.dropNew 0 rfl (foot_blk hnb4); simp only [m5, m6] at H
    replace H := H.facts (R' := [SlIn 3 Pass.cells (⟨x2_.1, x2_.2, (passesF p mach (doesF p mach ab3 (a12.l.getD ((picks.l.getD (arow1.length) default).toNat % a12.l.length) default)))⟩ : Sl Pass), FreshAt w (SlIn 3 Pass.cells (⟨x1_.1, x1_.2, (passesF p mach ((startF p).1))⟩ : Sl Pass)), IsProg p, SlIn 1 eByte picks, Glob]) (by first | exact fun _ h => h | simp)
    show ∃ n', n' < _ ∧ _
    refine ⟨_, ?_, (⟨x2_.1, x2_.2, (passesF p mach (doesF p mach ab3 (a12.l.getD ((picks.l.getD (arow1.length) default).toNat % a12.l.length) default)))⟩ : Sl Pass), (arow1 ++ [(a12.l.getD ((picks.l.getD (arow1.length) default).toNat % a12.l.length) default)]), (doesF p mach ab3 (a12.l.getD ((picks.l.getD (arow1.length) default).toNat % a12.l.length) default)), _, _, _, _, _, _, _, _, _, _, _, _, _, _, _, _, _, _, _, _, _, _, _, _, _, _, _, _, _, _, _, _, _, _, _, _, _, b6, na, rfl, H, (by first | omega | simp [-List.reduceReplicate] <;> omega | simp [*, -List.reduceReplicate] <;> omega), (by assumption), (by rfl), (by simp only [List.length_append, List.length_cons, List.length_nil]; omega), (by omega), (hFa.trans ((bt hc2).trans (bt hc3))).trans (congrFun hra _), rfl⟩
    omega
   · --F 3
    have hc3N7 : (picks.l.length : Int) ≤ (arow1.length : Int) := (by simpa using hc3)
    refine wp_skip ?_
    refine wsr ?_
    refine wr (rp_loadN H 4 rfl rfl rfl Tryz.underlying29 rfl sz29 (Nat.le_of_ble_eq_true rfl) (cs' := p.cells) rfl) ?_; simp only [N]
    refine wmv (bv mach) ?_; simp only [N]
    refine wr (rp_loadWA H 2 rfl rfl rfl Tryz.underlying41 rfl sz41 rfl) ?_; simp only [N]
    refine wr (rp_loadN H 0 rfl rfl rfl Tryz.underlying50 rfl sz50 (Nat.le_of_ble_eq_true rfl) (cs' := (a12.l.getD 0 default).cells) rfl) ?_; simp only [N]
    have hdv2 : BValid p mach ab3 := by assumption
    have hdx2 : (a12.l.getD 0 default) ∈ passesF p mach ab3 := by exact passes_at' hia2 (by first | omega | exact Nat.mod_lt _ (by omega))
    have hnx2 := does_next hdv2 hdx2
    have hnv2 := hnx2.1
    have hnl2 := hnv2.len
    have hnl2b := hnl2
    try simp [-List.reduceReplicate] at hnl2b
    have hnm2 := hnx2.2
    have hnt2 := hnv2.ok.threads.2
    have hnk2 := fun t ht => (hnv2.most (t := t) ht).1
    refine wl_callE H rfl (rc_go Tryz.func39 (by kernel_rfl) rfl) (doesF_spec p mach ab3 (a12.l.getD 0 default) (by first | omega | simp [-List.reduceReplicate] <;> omega | simp [*, -List.reduceReplicate] <;> omega) (by assumption) (by assumption) _ (H.ro_at 2 rfl) (H.ro_at 4 rfl)) ?_
    clear H; intro w19 H
    simp only [N]
    refine wl_storeA H 2 rfl rfl rfl rfl (doesF p mach ab3 (a12.l.getD 0 default)) rfl sz41 ?_
    clear H; intro w20 H; simp only [M] at H
    simp only [N]
    refine wpList_nil ?_
    refine wp_region_lit ?_; refine wmv avrow1 ?_; simp only [N]
    refine wr (rp_loadN H 0 rfl rfl rfl Tryz.underlying50 rfl sz50 (Nat.le_of_ble_eq_true rfl) (cs' := (a12.l.getD 0 default).cells) rfl) ?_; simp only [N]
    refine wl_xallocF H rfl (xa_buildSlice rfl Tryz.underlying44 sz50 zv50 (by decide) (by decide) (vs := [(0, .agg ((a12.l.getD 0 default).cells).toArray)]) rfl (cs := #[bv (a12.l.getD 0 default).thread, .bool (a12.l.getD 0 default).drain, bv (a12.l.getD 0 default).loc]) (by kernel_rfl)) ?_
    clear H; intro b7 w21 hnb7 H
    simp only [N]
    refine wl_appendT Pass.cells H 1 rfl Tryz.underlying44 sz50 zv50 by50 rfl (by decide) rfl rfl (ad := ⟨b7, 0, none⟩) (m := 1) (c := 1) rfl [(a12.l.getD 0 default)] rfl Pass.cells_n (fun j u hu => cell_of_news (H.ro_at 0 rfl) j u hu) (by intro x; simp [Pass.cells, Value.oneCell']) (by first | omega | (simp only [List.length_append, List.length_cons, List.length_nil]; omega)) (by first | omega | (simp only [List.length_append, List.length_cons, List.length_nil]; omega)) (by simp) ?_
    clear H; intro b8 w22 H; simp only [M] at H
    simp only [N]
    refine wasg b8 ?_; simp only [N]
    refine wpList_nil ?_
    refine wp_region_lit ?_; refine wr (rp_loadN H 4 rfl rfl rfl Tryz.underlying29 rfl sz29 (Nat.le_of_ble_eq_true rfl) (cs' := p.cells) rfl) ?_; simp only [N]
    refine wmv (bv mach) ?_; simp only [N]
    refine wr (rp_loadWA H 2 rfl rfl rfl Tryz.underlying41 rfl sz41 rfl) ?_; simp only [N]
    refine wl_callFA H rfl (rc_go Tryz.func28 (by kernel_rfl) rfl) (passesF_spec p mach (doesF p mach ab3 (a12.l.getD 0 default)) (by first | omega | simp [-List.reduceReplicate] <;> omega | simp [*, -List.reduceReplicate] <;> omega) (by first | assumption | omega) (by first | assumption | omega) _ (H.ro_at 3 rfl)) ?_
    clear H; intro x3_ w23 H
    simp only [N]
    have hcx3_0 : (passesF p mach (doesF p mach ab3 (a12.l.getD 0 default))).length ≤ 140737488355328 := (FreshAt.now (H.ro_at 0 rfl)).2.2.1
    refine wasg ((⟨x3_.1, x3_.2, (passesF p mach (doesF p mach ab3 (a12.l.getD 0 default)))⟩ : Sl Pass).val) ?_; simp only [N]
    refine wpList_nil ?_
    replace H := H.infer (SlIn 3 Pass.cells (⟨x3_.1, x3_.2, (passesF p mach (doesF p mach ab3 (a12.l.getD 0 default)))⟩ : Sl Pass)) (fun _ hR => (FreshAt.now (ro_mem hR 0 rfl)))
    replace H := H.dropNew 0 rfl (foot_blk hnb4); simp only [m5, m6] at H
    replace H := H.facts (R' := [SlIn 3 Pass.cells (⟨x3_.1, x3_.2, (passesF p mach (doesF p mach ab3 (a12.l.getD 0 default)))⟩ : Sl Pass), FreshAt w (SlIn 3 Pass.cells (⟨x1_.1, x1_.2, (passesF p mach ((startF p).1))⟩ : Sl Pass)), IsProg p, SlIn 1 eByte picks, Glob]) (by first | exact fun _ h => h | simp)
    show ∃ n', n' < _ ∧ _
    refine ⟨_, ?_, (⟨x3_.1, x3_.2, (passesF p mach (doesF p mach ab3 (a12.l.getD 0 default)))⟩ : Sl Pass), (arow1 ++ [(a12.l.getD 0 default)]), (doesF p mach ab3 (a12.l.getD 0 default)), _, _, _, _, _, _, _, _, _, _, _, _, _, _, _, _, _, _, _, _, _, _, _, _, _, _, _, _, _, _, _, _, _, _, _, _, _, b8, na, rfl, H, (by first | omega | simp [-List.reduceReplicate] <;> omega | simp [*, -List.reduceReplicate] <;> omega), (by assumption), (by rfl), (by simp only [List.length_append, List.length_cons, List.length_nil]; omega), (by omega), (hFa.trans ((bt hc2).trans (bf hc3))).trans (congrFun hra _), rfl⟩
    omega
  · --F 2
   have hc2N8 : (a12.l.length : Int) ≤ (0 : Int) := (by simpa using hc2)
   refine wp_exit ?_
   refine wsr ?_
   refine wr (rp_loadWA H 1 rfl rfl rfl Tryz.underlying41 rfl sz41 rfl) ?_; simp only [N]
   refine wl_callE H rfl (rc_go Tryz.func20 (by kernel_rfl) rfl) (finalF_spec ab3 (by first | omega | simp [-List.reduceReplicate] <;> omega | simp [*, -List.reduceReplicate] <;> omega) _ ) ?_
   clear H; intro w24 H
   simp only [N]
   refine wmv avrow1 ?_; simp only [N]
   refine wl_storeA H 2 rfl rfl rfl rfl (finalF ab3) rfl sz64 ?_
   clear H; intro w25 H; simp only [M] at H
   simp only [N]
   refine wasg avrow1 ?_; simp only [N]
   refine wasg (iv (0 : Int)) ?_; simp only [N]
   refine wpList_nil ?_
   refine wp_ret ?_
   try simp only [Exit.inBlock, Exit.then, cutP]
   refine bodyPost_ret (results3 rfl (rv_aggA H 2 rfl rfl Tryz.underlying64 rfl sz64) (rv_tmp rfl) (rv_tmp rfl)) rfl ?_
   obtain ⟨sl1, hsv1, hsf1⟩ := fresh_row H 0 rfl arow1 rfl rfl Pass.cells_n (by first | omega | (simp only [List.length_append, List.length_cons, List.length_nil]; omega))
   subst hsv1
   have hF : (bPlayF p mach picks.l) = ((finalF ab3), arow1, (0 : Int)) := hFa.trans (bf hc2)
   rw [hF]
   exact ⟨sl1, rfl, H.ext, hsf1⟩

end Go.Proofs.YtimonjemjhecoaaGreatDoor
