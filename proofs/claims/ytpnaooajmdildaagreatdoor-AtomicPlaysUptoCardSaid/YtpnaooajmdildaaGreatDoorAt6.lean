/- Walks, printed by a program of this repository (wip/tool). -/
import Derived.Test.YtpnaooajmdildaaGreatDoorAt5
namespace Go.Proofs.YtpnaooajmdildaaGreatDoor
open Go.RowKit
open Go
attribute [local irreducible] wpList wpQuiet wpX Code.wp
set_option maxHeartbeats 1000000
set_option maxRecDepth 100000
set_option linter.unusedSimpArgs false
set_option linter.unusedVariables false

theorem goesI_spec (p : Prog) (S : List UInt8) (t : Int) (hS : S.length = 142) (hr : RightOk p) (hm : mayF p S t = true) (w : World) (hp : IsProg p w) :
    Calls Tryz.prog 46 #[.agg p.cells.toArray, .agg (enc S).toArray, iv t] w fun e w' => e = .returned (.agg (enc (goesF p S t.toNat)).toArray) ∧ Ext w w' := by
  obtain ⟨h0, h1⟩ := mayF_nat.1 hm
  obtain ⟨hk, hpc⟩ := mayN_iff.1 h1
  have h2 := goes_spec p S t.toNat hS hr.threads.2 hk hpc (hr.at hk hpc).2.ok w hp
  rw [Int.toNat_of_nonneg h0] at h2
  exact h2

def movesF (p : Prog) (s : List UInt8) : (List Int) :=
  bif (!(aRightF p s)) then ([]) else ((ableF p s))


theorem movesF_spec (p : Prog) (s : List UInt8) (hs : s.length = 142) (w : World) (hp : (IsProg p) w) (hg_ : (Glob) w) :
    Calls Tryz.prog 11 #[.agg p.cells.toArray, .agg (enc s).toArray] w fun e w' => ∃ x : (Option Addr × Nat), e = .returned ((⟨x.1, x.2, ((movesF p s))⟩ : Sl Int).val) ∧ Ext w w' ∧ Fresh w w' (SlIn 1 eInt (⟨x.1, x.2, ((movesF p s))⟩ : Sl Int)) := by
 have H := Own.start_ro w [IsProg p, Glob] (List.forall_mem_cons.2 ⟨fun w' hw => hp.keep hw, List.forall_mem_cons.2 ⟨fun w' hw => hg_.keep hw, fun _ h => by cases h⟩⟩)
 have hcp1 := hp.locs.2.2
 have hcp2 := hp.init.2.2
 have hcp3 := hp.threads.2.2
 go_enter Tryz.func11, Tryz.ntmps11
 refine wp_seq ?_
 refine wp_region_lit ?_
 refine wl_box H rfl rfl (v := .agg (p.cells).toArray) rfl ?_
 clear H; intro b1 w1 hnb1 H; dsimp only [Value.cells] at H
 simp only [N]
 refine wl_box H rfl rfl (v := .agg (enc s).toArray) rfl ?_
 clear H; intro b2 w2 hnb2 H; dsimp only [Value.cells] at H
 simp only [N]
 refine wl_run rfl (rp_assign rfl (v := (.slice none 0 0)) rfl) ?_
 simp only [N]
 refine wpList_nil ?_
 refine wp_seq ?_
 refine wp_seq ?_
 refine wp_region_lit ?_
 refine wl_run rfl (rp_loadN H 1 rfl rfl rfl Tryz.underlying29 rfl sz29 (Nat.le_of_ble_eq_true rfl) (cs' := p.cells) rfl) ?_
 simp only [N]
 refine wl_run rfl (rp_loadWe H 0 rfl rfl rfl Tryz.underlying41 rfl (by first | exact sz41 | (rw [sz41]; congr 1; first | omega | (simp [-List.reduceReplicate]; done) | (simp [-List.reduceReplicate]; omega) | (simp [*, -List.reduceReplicate]; done) | (simp [*, -List.reduceReplicate]; omega))) rfl) ?_
 simp only [N]
 refine wl_callE H rfl (rc_go Tryz.func26 (by kernel_rfl) rfl) (aRightF_spec p s (by first | omega | (simp [-List.reduceReplicate]; done) | (simp [-List.reduceReplicate]; omega) | (simp [*, -List.reduceReplicate]; done) | (simp [*, -List.reduceReplicate]; omega)) _ (H.ro_at 0 rfl) (H.ro_at 1 rfl)) ?_
 clear H; intro w3 H
 simp only [N]
 refine wl_run rfl (rp_not rfl (aRightF p s) rfl) ?_
 simp only [N]
 refine wpList_nil ?_
 refine wp_cond_split rfl (fun hc1 => ?_) (fun hc1 => ?_)
 · --T 1
  refine wp_seq ?_
  refine wp_region_lit ?_
  refine wl_run rfl (rp_assign rfl (v := (.slice none 0 0)) rfl) ?_
  simp only [N]
  refine wpList_nil ?_
  refine wp_ret ?_
  try simp only [Exit.inBlock, Exit.then, cutP]
  refine bodyPost_ret (results1 rfl (rv_tmp rfl)) rfl ?_
  have hF : (movesF p s) = [] := bt hc1
  rw [hF]
  exact ⟨(none, 0), rfl, H.ext, (fun _ _ => slin_nil eIntN)⟩
 · --F 1
  refine wp_skip ?_
  refine wp_seq ?_
  refine wp_region_lit ?_
  refine wl_run rfl (rp_loadN H 1 rfl rfl rfl Tryz.underlying29 rfl sz29 (Nat.le_of_ble_eq_true rfl) (cs' := p.cells) rfl) ?_
  simp only [N]
  refine wl_run rfl (rp_loadWe H 0 rfl rfl rfl Tryz.underlying41 rfl (by first | exact sz41 | (rw [sz41]; congr 1; first | omega | (simp [-List.reduceReplicate]; done) | (simp [-List.reduceReplicate]; omega) | (simp [*, -List.reduceReplicate]; done) | (simp [*, -List.reduceReplicate]; omega))) rfl) ?_
  simp only [N]
  refine wl_callFA H rfl (rc_go Tryz.func35 (by kernel_rfl) rfl) (ableF_spec p s (by first | omega | (simp [-List.reduceReplicate]; done) | (simp [-List.reduceReplicate]; omega) | (simp [*, -List.reduceReplicate]; done) | (simp [*, -List.reduceReplicate]; omega)) (by first | omega | exact (aRight_ok (by simpa using hc1)).threads.2) _ (H.ro_at 0 rfl)) ?_
  clear H; intro x1_ w4 H
  simp only [N]
  have hcx1_0 : (ableF p s).length ≤ 140737488355328 := ((FreshAt.now (H.ro_at 0 rfl))).2.2.1
  refine wl_run rfl (rp_assign rfl (v := (⟨x1_.1, x1_.2, (ableF p s)⟩ : Sl Int).val) rfl) ?_
  simp only [N]
  refine wpList_nil ?_
  refine wp_ret ?_
  try simp only [Exit.inBlock, Exit.then, cutP]
  refine bodyPost_ret (results1 rfl (rv_tmp rfl)) rfl ?_
  have hF : (movesF p s) = (ableF p s) := bf hc1
  rw [hF]
  exact ⟨x1_, rfl, H.ext, (FreshAt.fresh ((H.ro_at 0 rfl)))⟩

def overF (p : Prog) (s : List UInt8) : Bool :=
  bif (aRightF p s) then (((((ableF p s).length : Nat) : Int) == (0 : Int))) else false


theorem overF_spec (p : Prog) (s : List UInt8) (hs : s.length = 142) (w : World) (hp : (IsProg p) w) (hg_ : (Glob) w) :
    Calls Tryz.prog 29 #[.agg p.cells.toArray, .agg (enc s).toArray] w fun e w' => e = .returned (.bool ((overF p s))) ∧ Ext w w' := by
 have H := Own.start_ro w [IsProg p, Glob] (List.forall_mem_cons.2 ⟨fun w' hw => hp.keep hw, List.forall_mem_cons.2 ⟨fun w' hw => hg_.keep hw, fun _ h => by cases h⟩⟩)
 have hcp1 := hp.locs.2.2
 have hcp2 := hp.init.2.2
 have hcp3 := hp.threads.2.2
 go_enter Tryz.func29, Tryz.ntmps29
 refine wp_seq ?_
 refine wp_region_lit ?_
 refine wl_box H rfl rfl (v := .agg (p.cells).toArray) rfl ?_
 clear H; intro b1 w1 hnb1 H; dsimp only [Value.cells] at H
 simp only [N]
 refine wl_box H rfl rfl (v := .agg (enc s).toArray) rfl ?_
 clear H; intro b2 w2 hnb2 H; dsimp only [Value.cells] at H
 simp only [N]
 refine wl_run rfl (rp_assign rfl (v := .bool false) rfl) ?_
 simp only [N]
 refine wpList_nil ?_
 refine wp_seq ?_
 refine wp_region_lit ?_
 refine wl_run rfl (rp_loadN H 1 rfl rfl rfl Tryz.underlying29 rfl sz29 (Nat.le_of_ble_eq_true rfl) (cs' := p.cells) rfl) ?_
 simp only [N]
 refine wl_run rfl (rp_loadWe H 0 rfl rfl rfl Tryz.underlying41 rfl (by first | exact sz41 | (rw [sz41]; congr 1; first | omega | (simp [-List.reduceReplicate]; done) | (simp [-List.reduceReplicate]; omega) | (simp [*, -List.reduceReplicate]; done) | (simp [*, -List.reduceReplicate]; omega))) rfl) ?_
 simp only [N]
 refine wl_callE H rfl (rc_go Tryz.func26 (by kernel_rfl) rfl) (aRightF_spec p s (by first | omega | (simp [-List.reduceReplicate]; done) | (simp [-List.reduceReplicate]; omega) | (simp [*, -List.reduceReplicate]; done) | (simp [*, -List.reduceReplicate]; omega)) _ (H.ro_at 0 rfl) (H.ro_at 1 rfl)) ?_
 clear H; intro w3 H
 simp only [N]
 refine wl_run rfl (rp_move rfl (v := .bool (aRightF p s)) rfl) ?_
 simp only [N]
 refine wl_g (wn_t rfl rfl) (v := .agg (p.cells).toArray) (fun hg => rp_loadN H 1 rfl rfl rfl Tryz.underlying29 rfl sz29 (Nat.le_of_ble_eq_true rfl) (cs' := p.cells) rfl) ?_
 simp only [N]
 refine wl_g (wn_t rfl rfl) (v := .agg (enc s).toArray) (fun hg => rp_loadWe H 0 rfl rfl rfl Tryz.underlying41 rfl (by first | exact sz41 | (rw [sz41]; congr 1; first | omega | (simp [-List.reduceReplicate]; done) | (simp [-List.reduceReplicate]; omega) | (simp [*, -List.reduceReplicate]; done) | (simp [*, -List.reduceReplicate]; omega))) rfl) ?_
 simp only [N]
 rcases Bool.eq_false_or_eq_true (aRightF p s) with hg1 | hg1
 · --true
  simp only [hg1, gv_t hg1, Bool.true_and, Bool.and_true]
  refine wl_callFA H rfl (rc_go Tryz.func35 (by kernel_rfl) rfl) (ableF_spec p s (by first | omega | (simp [-List.reduceReplicate]; done) | (simp [-List.reduceReplicate]; omega) | (simp [*, -List.reduceReplicate]; done) | (simp [*, -List.reduceReplicate]; omega)) (by first | omega | exact (aRight_ok (by simpa using hg)).threads.2 | exact (aRight_ok (by assumption)).threads.2) _ (H.ro_at 0 rfl)) ?_
  clear H; intro x2_ w4 H
  simp only [N]
  have hcx2_0 : (ableF p s).length ≤ 140737488355328 := ((FreshAt.now (H.ro_at 0 rfl))).2.2.1
  refine wl_run rfl (rp_len_sl (s := (⟨x2_.1, x2_.2, (ableF p s)⟩ : Sl Int)) Tryz.underlying44 rfl) ?_
  simp only [N]
  refine wl_run rfl (rp_int_eql rfl (((ableF p s).length : Nat) : Int) (0 : Int) rfl rfl) ?_
  simp only [N]
  refine wl_run rfl (rp_pickT rfl rfl (u := .bool ((((ableF p s).length : Nat) : Int) == (0 : Int))) rfl) ?_
  simp only [N]
  refine wl_run rfl (rp_assign rfl (v := .bool ((((ableF p s).length : Nat) : Int) == (0 : Int))) rfl) ?_
  simp only [N]
  refine wpList_nil ?_
  refine wp_ret ?_
  try simp only [Exit.inBlock, Exit.then, cutP]
  refine bodyPost_ret (results1 rfl (rv_tmp rfl)) rfl ?_
  have hF : (overF p s) = ((((ableF p s).length : Nat) : Int) == (0 : Int)) := bt hg1
  rw [hF]
  exact ⟨rfl, H.ext⟩
 · --false
  simp only [hg1]
  refine wl_skip (unwanted rfl (b := false) rfl (by decide)) ?_
  simp only [N]
  refine wl_skip (unwanted rfl (b := false) rfl (by decide)) ?_
  simp only [N]
  refine wl_skip (unwanted rfl (b := false) rfl (by decide)) ?_
  simp only [N]
  refine wl_run rfl (rp_pickF rfl rfl (v := .bool false) rfl) ?_
  simp only [N]
  refine wl_run rfl (rp_assign rfl (v := .bool false) rfl) ?_
  simp only [N]
  refine wpList_nil ?_
  refine wp_ret ?_
  try simp only [Exit.inBlock, Exit.then, cutP]
  refine bodyPost_ret (results1 rfl (rv_tmp rfl)) rfl ?_
  have hF : (overF p s) = false := bf hg1
  rw [hF]
  exact ⟨rfl, H.ext⟩

def moveF (p : Prog) (s : List UInt8) (t : Int) : (List UInt8) × Int :=
  bif ((!(aRightF p s)) || (!(mayF p s t))) then (((List.replicate 142 (0 : UInt8)), (2 : Int))) else (((goesF p s (t).toNat), (0 : Int)))

@[simp] theorem moveF_len0 (p : Prog) (s : List UInt8) (t : Int) (hs : s.length = 142) : (((moveF p s t)).1).length = 142 := by
  simp only [moveF, Bool.cond_eq_ite]; split
  · simp
  · rename_i hc
    have hc : ((!(aRightF p s)) || (!(mayF p s t))) = false := by simpa using hc
    have hr1 : aRightF p s = true := by simpa using orl hc
    have hm1 : mayF p s t = true := by simpa using orr hc
    exact goes_length hs (by have := (mayN_iff.1 (mayF_nat.1 hm1).2).1; have := (aRight_ok hr1).threads; omega)

theorem moveF_spec (p : Prog) (s : List UInt8) (t : Int) (hs : s.length = 142) (w : World) (hp : (IsProg p) w) (hg_ : (Glob) w) :
    Calls Tryz.prog 14 #[.agg p.cells.toArray, .agg (enc s).toArray, iv t] w fun e w' => e = .returned (.tuple #[.agg (enc ((moveF p s t)).1).toArray, iv ((moveF p s t)).2]) ∧ Ext w w' := by
 have H := Own.start_ro w [IsProg p, Glob] (List.forall_mem_cons.2 ⟨fun w' hw => hp.keep hw, List.forall_mem_cons.2 ⟨fun w' hw => hg_.keep hw, fun _ h => by cases h⟩⟩)
 have hcp1 := hp.locs.2.2
 have hcp2 := hp.init.2.2
 have hcp3 := hp.threads.2.2
 go_enter Tryz.func14, Tryz.ntmps14
 refine wp_seq ?_
 refine wp_region_lit ?_
 refine wl_box H rfl rfl (v := .agg (p.cells).toArray) rfl ?_
 clear H; intro b1 w1 hnb1 H; dsimp only [Value.cells] at H
 simp only [N]
 refine wl_box H rfl rfl (v := .agg (enc s).toArray) rfl ?_
 clear H; intro b2 w2 hnb2 H; dsimp only [Value.cells] at H
 simp only [N]
 refine wl_alloc H rfl rfl zv41 ?_
 clear H; intro b3 w3 hnb3 H; dsimp only [Value.cells] at H
 simp only [N]
 simp only [enc_replicate] at H
 refine wl_run rfl (rp_assign rfl (v := iv (0 : Int)) rfl) ?_
 simp only [N]
 refine wpList_nil ?_
 refine wp_seq ?_
 refine wp_seq ?_
 refine wp_region_lit ?_
 refine wl_run rfl (rp_loadN H 2 rfl rfl rfl Tryz.underlying29 rfl sz29 (Nat.le_of_ble_eq_true rfl) (cs' := p.cells) rfl) ?_
 simp only [N]
 refine wl_run rfl (rp_loadWe H 1 rfl rfl rfl Tryz.underlying41 rfl (by first | exact sz41 | (rw [sz41]; congr 1; first | omega | (simp [-List.reduceReplicate]; done) | (simp [-List.reduceReplicate]; omega) | (simp [*, -List.reduceReplicate]; done) | (simp [*, -List.reduceReplicate]; omega))) rfl) ?_
 simp only [N]
 refine wl_callE H rfl (rc_go Tryz.func26 (by kernel_rfl) rfl) (aRightF_spec p s (by first | omega | (simp [-List.reduceReplicate]; done) | (simp [-List.reduceReplicate]; omega) | (simp [*, -List.reduceReplicate]; done) | (simp [*, -List.reduceReplicate]; omega)) _ (H.ro_at 0 rfl) (H.ro_at 1 rfl)) ?_
 clear H; intro w4 H
 simp only [N]
 refine wl_run rfl (rp_not rfl (aRightF p s) rfl) ?_
 simp only [N]
 refine wl_run rfl (rp_move rfl (v := .bool (!(aRightF p s))) rfl) ?_
 simp only [N]
 refine wl_g (wn_f rfl rfl) (v := .agg (p.cells).toArray) (fun hg => rp_loadN H 2 rfl rfl rfl Tryz.underlying29 rfl sz29 (Nat.le_of_ble_eq_true rfl) (cs' := p.cells) rfl) ?_
 simp only [N]
 refine wl_g (wn_f rfl rfl) (v := .agg (enc s).toArray) (fun hg => rp_loadWe H 1 rfl rfl rfl Tryz.underlying41 rfl (by first | exact sz41 | (rw [sz41]; congr 1; first | omega | (simp [-List.reduceReplicate]; done) | (simp [-List.reduceReplicate]; omega) | (simp [*, -List.reduceReplicate]; done) | (simp [*, -List.reduceReplicate]; omega))) rfl) ?_
 simp only [N]
 refine wl_g (wn_f rfl rfl) (v := iv t) (fun hg => rp_move rfl (v := iv t) rfl) ?_
 simp only [N]
 refine wl_gE H (wn_f rfl rfl) (fun hg => fun w => by simp only [gv_t hg]; exact rc_go Tryz.func45 (by kernel_rfl) rfl w) (v := .bool (mayF p s t)) (fun hg => may_spec p s t (by first | omega | (simp [-List.reduceReplicate]; done) | (simp [-List.reduceReplicate]; omega) | (simp [*, -List.reduceReplicate]; done) | (simp [*, -List.reduceReplicate]; omega)) (by first | omega | exact (aRight_ok (by simpa using hg)).threads.2 | exact (aRight_ok (by assumption)).threads.2) _ (H.ro_at 0 rfl)) ?_
 clear H; intro w5 H
 simp only [N]
 refine wl_g (wn_f rfl rfl) (v := .bool (!(mayF p s t))) (fun hg => by simp only [gv_t hg]; exact rp_not rfl (mayF p s t) rfl) ?_
 simp only [N]
 refine wl_run rfl (rp_pickO rfl (p := (!(aRightF p s))) (q := (!(mayF p s t))) rfl rfl rfl) ?_
 simp only [N]
 refine wpList_nil ?_
 refine wp_cond_split rfl (fun hc1 => ?_) (fun hc1 => ?_)
 · --T 1
  refine wp_seq ?_
  refine wp_region_lit ?_
  refine wl_run rfl (rp_build rfl (vs := []) rfl (cs := (enc (List.replicate 142 (0 : UInt8))).toArray) (by kernel_rfl)) ?_
  simp only [N]
  refine wl_storeW H 0 rfl rfl rfl rfl (vs := (enc (List.replicate 142 (0 : UInt8))).toArray) rfl (fun v hv => enc_one v (by simpa using hv)) (by first | (rw [sz41]; congr 1; done) | (rw [sz41]; congr 1; first | omega | (simp [-List.reduceReplicate]; done) | (simp [-List.reduceReplicate]; omega) | (simp [*, -List.reduceReplicate]; done) | (simp [*, -List.reduceReplicate]; omega))) (by first | omega | (simp [-List.reduceReplicate]; done) | (simp [-List.reduceReplicate]; omega) | (simp [*, -List.reduceReplicate]; done) | (simp [*, -List.reduceReplicate]; omega)) ?_
  clear H; intro w6 H; simp only [M] at H
  simp only [N]
  refine wl_run rfl (rp_assign rfl (v := iv (2 : Int)) rfl) ?_
  simp only [N]
  refine wpList_nil ?_
  refine wp_ret ?_
  try simp only [Exit.inBlock, Exit.then, cutP]
  refine bodyPost_ret (results2 rfl (rv_agg H 0 rfl rfl Tryz.underlying41 rfl (by first | exact sz41 | (rw [sz41]; congr 1; first | omega | (simp [-List.reduceReplicate]; done) | (simp [-List.reduceReplicate]; omega) | (simp [*, -List.reduceReplicate]; done) | (simp [*, -List.reduceReplicate]; omega)))) (rv_tmp rfl)) rfl ?_
  have hF : (moveF p s t) = ((List.replicate 142 (0 : UInt8)), (2 : Int)) := bt hc1
  rw [hF]
  exact ⟨rfl, H.ext⟩
 · --F 1
  have hr1 : aRightF p s = true := by simpa using orl hc1
  have hm1 : mayF p s t = true := by simpa using orr hc1
  have hk1 := aRight_ok hr1
  have hkk := (mayN_iff.1 (mayF_nat.1 hm1).2).1
  have hk4 := hk1.threads.2
  have hgl : (goesF p s (t).toNat).length = 142 := goes_length hs (by omega)
  refine wp_skip ?_
  refine wp_seq ?_
  refine wp_region_lit ?_
  refine wl_run rfl (rp_loadN H 2 rfl rfl rfl Tryz.underlying29 rfl sz29 (Nat.le_of_ble_eq_true rfl) (cs' := p.cells) rfl) ?_
  simp only [N]
  refine wl_run rfl (rp_loadWe H 1 rfl rfl rfl Tryz.underlying41 rfl (by first | exact sz41 | (rw [sz41]; congr 1; first | omega | (simp [-List.reduceReplicate]; done) | (simp [-List.reduceReplicate]; omega) | (simp [*, -List.reduceReplicate]; done) | (simp [*, -List.reduceReplicate]; omega))) rfl) ?_
  simp only [N]
  refine wl_run rfl (rp_move rfl (v := iv t) rfl) ?_
  simp only [N]
  refine wl_callE H rfl (rc_go Tryz.func46 (by kernel_rfl) rfl) (goesI_spec p s t (by first | omega | (simp [-List.reduceReplicate]; done) | (simp [-List.reduceReplicate]; omega) | (simp [*, -List.reduceReplicate]; done) | (simp [*, -List.reduceReplicate]; omega)) (by assumption) (by assumption) _ (H.ro_at 0 rfl)) ?_
  clear H; intro w7 H
  simp only [N]
  refine wl_storeW H 0 rfl rfl rfl rfl (vs := (enc (goesF p s (t).toNat)).toArray) rfl (fun v hv => enc_one v (by simpa using hv)) (by first | (rw [sz41]; congr 1; done) | (rw [sz41]; congr 1; first | omega | (simp [-List.reduceReplicate]; done) | (simp [-List.reduceReplicate]; omega) | (simp [*, -List.reduceReplicate]; done) | (simp [*, -List.reduceReplicate]; omega))) (by first | omega | (simp [-List.reduceReplicate]; done) | (simp [-List.reduceReplicate]; omega) | (simp [*, -List.reduceReplicate]; done) | (simp [*, -List.reduceReplicate]; omega)) ?_
  clear H; intro w8 H; simp only [M] at H
  simp only [N]
  refine wl_run rfl (rp_assign rfl (v := iv (0 : Int)) rfl) ?_
  simp only [N]
  refine wpList_nil ?_
  refine wp_ret ?_
  try simp only [Exit.inBlock, Exit.then, cutP]
  refine bodyPost_ret (results2 rfl (rv_agg H 0 rfl rfl Tryz.underlying41 rfl (by first | exact sz41 | (rw [sz41]; congr 1; first | omega | (simp [-List.reduceReplicate]; done) | (simp [-List.reduceReplicate]; omega) | (simp [*, -List.reduceReplicate]; done) | (simp [*, -List.reduceReplicate]; omega)))) (rv_tmp rfl)) rfl ?_
  have hF : (moveF p s t) = ((goesF p s (t).toNat), (0 : Int)) := bf hc1
  rw [hF]
  exact ⟨rfl, H.ext⟩

end Go.Proofs.YtpnaooajmdildaaGreatDoor
