/- Walks, printed by a program of this repository (wip/tool). -/
import Derived.Test.YtpnaooajmdildaaGreatDoorBe
import Derived.Test.YtpnaooajmdildaaGreatDoorSL
namespace Go.Proofs.YtpnaooajmdildaaGreatDoor
open Go.RowKit
open Go
attribute [local irreducible] wpList wpQuiet wpX Code.wp
set_option maxHeartbeats 1000000
set_option maxRecDepth 100000
set_option linter.unusedSimpArgs false
set_option linter.unusedVariables false

def stepsF_a (t : Int) (xra : Int) (ra : Bool → Bool) : Bool → Bool := fun s_ => match s_ with | a9 => ra (a9 || (xra == t))
def stepsF_v80 (p : Prog) (picks : List UInt8) (v80 : Bool) : Bool :=
  ((v80 == ((((movesF p ((behindF p picks).1)).length : Nat) : Int) == (0 : Int))) && true)
def stepsF_v55 (p : Prog) (picks : List UInt8) (t : Int) (a9 : Bool) (v50 : (List UInt8) × Int) (v55 : Bool) : Bool :=
  bif (((!v55) || (a9 != (v50.2 == (0 : Int)))) || ((!a9) && ((v50.2 != (2 : Int)) || (!(decide (v50.1 = (List.replicate 142 (0 : UInt8)))))))) then false else (bif (!a9) then (stepsF_v80 p picks (overF p ((behindF p picks).1))) else (((((((decide (((v50.1.take ((t).toNat * 9) ++ (((behindF p picks).1.drop ((t).toNat * 9)).take 9) ++ v50.1.drop ((t).toNat * 9 + (((behindF p picks).1.drop ((t).toNat * 9)).take 9).length)).set (36 + (((p.threads.l.getD ((t).toNat) default).l.getD ((((behindF p picks).1.getD ((t).toNat * 9) 0)).toNat) default).loc).toNat) ((behindF p picks).1.getD (36 + (((p.threads.l.getD ((t).toNat) default).l.getD ((((behindF p picks).1.getD ((t).toNat * 9) 0)).toNat) default).loc).toNat) 0)) = (behindF p picks).1)) && (aRightF p v50.1)) && (decide (((behindF p picks).1.getD ((t).toNat * 9) 0) < (v50.1.getD ((t).toNat * 9) 0)))) && ((!(((((p.threads.l.getD ((t).toNat) default).l.getD ((((behindF p picks).1.getD ((t).toNat * 9) 0)).toNat) default).op == (3 : UInt8)) || (((p.threads.l.getD ((t).toNat) default).l.getD ((((behindF p picks).1.getD ((t).toNat * 9) 0)).toNat) default).op == (8 : UInt8))) || (((p.threads.l.getD ((t).toNat) default).l.getD ((((behindF p picks).1.getD ((t).toNat * 9) 0)).toNat) default).op == (7 : UInt8)))) || (decide (((v50.1.drop (36)).take 6) = (((behindF p picks).1.drop (36)).take 6))))) && (!(overF p ((behindF p picks).1)))) && true)))
def stepsF_v50 (p : Prog) (picks : List UInt8) (t : Int) (a9 : Bool) (v50 : (List UInt8) × Int) : Bool :=
  stepsF_v55 p picks t a9 v50 (aRightF p ((behindF p picks).1))
def stepsF_ak (p : Prog) (picks : List UInt8) (t : Int) : Bool → Bool := fun s_ => match s_ with | a9 => stepsF_v50 p picks t a9 (moveF p ((behindF p picks).1) t)
def stepsF (p : Prog) (picks : List UInt8) (t : Int) : Bool :=
  bif (!(behindF p picks).2) then ((((rightF p) != (0 : Int)) && true)) else (loopL (stepsF_a t) (stepsF_ak p picks t) (movesF p ((behindF p picks).1)) false)


theorem stepsF_spec (p : Prog) (picks : Sl UInt8) (t : Int) (w : World) (hp : (IsProg p) w) (hpicks : (SlIn 1 eByte picks) w) (hg_ : (Glob) w) :
    Calls Tryz.prog 6 #[.agg p.cells.toArray, picks.val, iv t] w fun e w' => e = .returned (.bool ((stepsF p picks.l t))) ∧ Ext w w' := by
 have H := Own.start_ro w [IsProg p, SlIn 1 eByte picks, Glob] (List.forall_mem_cons.2 ⟨fun w' hw => hp.keep hw, List.forall_mem_cons.2 ⟨fun w' hw => hpicks.keep hw, List.forall_mem_cons.2 ⟨fun w' hw => hg_.keep hw, fun _ h => by cases h⟩⟩⟩)
 have hcp1 := hp.locs.2.2
 have hcp2 := hp.init.2.2
 have hcp3 := hp.threads.2.2
 have hcpicks := hpicks.2.2
 go_enter Tryz.func6, Tryz.ntmps6
 refine wp_seq ?_
 refine wp_region_lit ?_
 refine wl_box H rfl rfl (v := .agg (p.cells).toArray) rfl ?_
 clear H; intro b1 w1 hnb1 H; dsimp only [Value.cells] at H
 simp only [N]
 refine wl_run rfl (rp_assign rfl (v := .bool false) rfl) ?_
 simp only [N]
 refine wpList_nil ?_
 refine wp_seq ?_
 refine wp_region_lit ?_
 refine wl_run rfl (rp_loadN H 0 rfl rfl rfl Tryz.underlying29 rfl sz29 (Nat.le_of_ble_eq_true rfl) (cs' := p.cells) rfl) ?_
 simp only [N]
 refine wl_run rfl (rp_move rfl (v := picks.val) rfl) ?_
 simp only [N]
 refine wl_callE H rfl (rc_go Tryz.func10 (by kernel_rfl) rfl) (behindF_spec p picks _ (H.ro_at 0 rfl) (((H.ro_at 1 rfl))) (H.ro_at 2 rfl)) ?_
 clear H; intro w2 H
 simp only [N]
 refine wl_run rfl (rp_move rfl (v := .tuple #[.agg (enc (behindF p picks.l).1).toArray, .bool (behindF p picks.l).2]) rfl) ?_
 simp only [N]
 refine wl_run rfl (rp_extract rfl rfl (v := .agg (enc (behindF p picks.l).1).toArray) rfl) ?_
 simp only [N]
 refine wl_run rfl (rp_extract rfl rfl (v := .bool (behindF p picks.l).2) rfl) ?_
 simp only [N]
 refine wl_alloc H rfl rfl zv41 ?_
 clear H; intro b2 w3 hnb2 H; dsimp only [Value.cells] at H
 simp only [N]
 simp only [enc_replicate] at H
 refine wl_storeW H 0 rfl rfl rfl rfl (vs := (enc (behindF p picks.l).1).toArray) rfl (fun v hv => enc_one v (by simpa using hv)) (by first | (rw [sz41]; congr 1; done) | (rw [sz41]; congr 1; first | omega | (simp [-List.reduceReplicate]; done) | (simp [-List.reduceReplicate]; omega) | (simp [*, -List.reduceReplicate]; done) | (simp [*, -List.reduceReplicate]; omega))) (by first | omega | (simp [-List.reduceReplicate]; done) | (simp [-List.reduceReplicate]; omega) | (simp [*, -List.reduceReplicate]; done) | (simp [*, -List.reduceReplicate]; omega)) ?_
 clear H; intro w4 H; simp only [M] at H
 simp only [N]
 refine wl_run rfl (rp_assign rfl (v := .bool (behindF p picks.l).2) rfl) ?_
 simp only [N]
 refine wpList_nil ?_
 refine wp_seq ?_
 refine wp_seq ?_
 refine wp_region_lit ?_
 refine wl_run rfl (rp_move rfl (v := .bool (behindF p picks.l).2) rfl) ?_
 simp only [N]
 refine wl_run rfl (rp_not rfl (behindF p picks.l).2 rfl) ?_
 simp only [N]
 refine wpList_nil ?_
 refine wp_cond_split rfl (fun hc1 => ?_) (fun hc1 => ?_)
 · --T 1
  refine wp_seq ?_
  refine wp_region_lit ?_
  refine wl_run rfl (rp_loadN H 1 rfl rfl rfl Tryz.underlying29 rfl sz29 (Nat.le_of_ble_eq_true rfl) (cs' := p.cells) rfl) ?_
  simp only [N]
  refine wl_callE H rfl (rc_go Tryz.func12 (by kernel_rfl) rfl) (rightF_spec p _ (H.ro_at 0 rfl) (H.ro_at 2 rfl)) ?_
  clear H; intro w5 H
  simp only [N]
  refine wl_run rfl (rp_int_neq rfl (rightF p) (0 : Int) rfl rfl) ?_
  simp only [N]
  refine wl_run rfl (rp_move rfl (v := .bool ((rightF p) != (0 : Int))) rfl) ?_
  simp only [N]
  refine wl_gE H (wn_t rfl rfl) (fun hg => rc_go Tryz.func13 (by kernel_rfl) rfl) (v := .bool true) (fun hg => by have x1 : (rightF p) ≠ (0 : Int) := (by simpa using hg); exact (awake_spec _ (H.ro_at 2 rfl))) ?_
  clear H; intro w6 H
  simp only [N]
  refine wl_run rfl (rp_pickA rfl (p := ((rightF p) != (0 : Int))) (q := true) rfl rfl rfl) ?_
  simp only [N]
  refine wl_run rfl (rp_assign rfl (v := .bool (((rightF p) != (0 : Int)) && true)) rfl) ?_
  simp only [N]
  refine wpList_nil ?_
  refine wp_ret ?_
  try simp only [Exit.inBlock, Exit.then, cutP]
  refine bodyPost_ret (results1 rfl (rv_tmp rfl)) rfl ?_
  have hF : (stepsF p picks.l t) = (((rightF p) != (0 : Int)) && true) := bt hc1
  rw [hF]
  exact ⟨rfl, H.ext⟩
 · --F 1
  refine wp_skip ?_
  refine wp_seq ?_
  refine wp_region_lit ?_
  refine wl_run rfl (rp_assign rfl (v := .bool false) rfl) ?_
  simp only [N]
  refine wpList_nil ?_
  refine wp_seq ?_
  refine wp_seq ?_
  refine wp_region_lit ?_
  refine wl_run rfl (rp_loadN H 1 rfl rfl rfl Tryz.underlying29 rfl sz29 (Nat.le_of_ble_eq_true rfl) (cs' := p.cells) rfl) ?_
  simp only [N]
  refine wl_run rfl (rp_loadWe H 0 rfl rfl rfl Tryz.underlying41 rfl (by first | exact sz41 | (rw [sz41]; congr 1; first | omega | (simp [-List.reduceReplicate]; done) | (simp [-List.reduceReplicate]; omega) | (simp [*, -List.reduceReplicate]; done) | (simp [*, -List.reduceReplicate]; omega))) rfl) ?_
  simp only [N]
  refine wl_callFA H rfl (rc_go Tryz.func11 (by kernel_rfl) rfl) (movesF_spec p ((behindF p picks.l).1) (by first | omega | (simp [-List.reduceReplicate]; done) | (simp [-List.reduceReplicate]; omega) | (simp [*, -List.reduceReplicate]; done) | (simp [*, -List.reduceReplicate]; omega)) _ (H.ro_at 0 rfl) (H.ro_at 2 rfl)) ?_
  clear H; intro x1_ w7 H
  simp only [N]
  have hcx1_0 : (movesF p ((behindF p picks.l).1)).length ≤ 140737488355328 := ((FreshAt.now (H.ro_at 0 rfl))).2.2.1
  refine wl_run rfl (rp_len_sl (s := (⟨x1_.1, x1_.2, (movesF p ((behindF p picks.l).1))⟩ : Sl Int)) Tryz.underlying44 rfl) ?_
  simp only [N]
  refine wl_run rfl (rp_move rfl (v := iv (0 : Int)) rfl) ?_
  simp only [N]
  refine wpList_nil ?_
  refine wp_block ?_
  refine wp_loopX (fun m' a' w' => ∃ (a9 : Bool) (a35 : Nat), a' = ⟨#[(tq a' 0), picks.val, iv t, .pointer (some ⟨b1, 0, none⟩), undef, undef, (tq a' 6), .pointer (some ⟨b2, 0, none⟩), (tq a' 8), .bool a9, undef, (tq a' 11), undef, undef, undef, undef, undef, (tq a' 17), (tq a' 18), picks.val, (tq a' 20), (tq a' 21), (tq a' 22), (tq a' 23), (tq a' 24), undef, undef, undef, undef, undef, undef, (tq a' 31), (tq a' 32), (⟨x1_.1, x1_.2, (movesF p ((behindF p picks.l).1))⟩ : Sl Int).val, iv (((movesF p ((behindF p picks.l).1)).length : Nat) : Int), iv ((a35 : Nat) : Int), (tq a' 36), (tq a' 37), (tq a' 38), (tq a' 39), (tq a' 40), (tq a' 41), (tq a' 42), (tq a' 43), (tq a' 44), (tq a' 45), undef, undef, undef, undef, undef, undef, undef, undef, undef, undef, undef, undef, undef, undef, undef, undef, undef, undef, undef, undef, undef, undef, undef, undef, undef, undef, undef, undef, undef, undef, undef, undef, undef, undef, undef, undef, undef, undef, undef, undef, undef, undef, undef, undef, undef, undef, undef, undef, undef, undef, undef, undef, undef, undef, undef, undef, undef, undef, undef, undef, undef, undef, undef, undef, undef, undef, undef, undef, undef, undef, undef, undef, undef, undef, undef, undef, undef, undef, undef, undef, undef, undef, undef, undef, undef, undef, undef, undef, undef, undef, undef, undef, undef, undef, undef, undef, undef, undef, undef, undef, undef, undef, undef, undef, undef, undef, undef, undef, undef, undef, undef, undef, undef, undef, undef, undef, undef, undef, undef, undef, undef, undef, undef, undef, undef, undef, undef], []⟩ ∧ Own w [] [FreshAt w (SlIn 1 eInt (⟨x1_.1, x1_.2, (movesF p ((behindF p picks.l).1))⟩ : Sl Int)), IsProg p, SlIn 1 eByte picks, Glob] [.blk b2 (.cells (enc (behindF p picks.l).1).toArray 41 (0, 0)), .blk b1 (.cells (p.cells).toArray 29 (0, 0))] w' ∧ (a35 ≤ (movesF p ((behindF p picks.l).1)).length) ∧ (stepsF p picks.l t) = loopL (stepsF_a t) (stepsF_ak p picks.l t) ((movesF p ((behindF p picks.l).1)).drop a35) a9 ∧ m' = (movesF p ((behindF p picks.l).1)).length - a35) _ ⟨false, 0, (by kernel_rfl), H, (by omega), bf hc1, rfl⟩ ?_
  clear H
  rintro _ a_ w8 ⟨a9, a35, ha_, H, hia0, hFa, rfl⟩
  obtain ⟨ua, hu_⟩ : ∃ ua : Nat → Value, a_ = ⟨#[(ua 0), picks.val, iv t, .pointer (some ⟨b1, 0, none⟩), undef, undef, (ua 6), .pointer (some ⟨b2, 0, none⟩), (ua 8), .bool a9, undef, (ua 11), undef, undef, undef, undef, undef, (ua 17), (ua 18), picks.val, (ua 20), (ua 21), (ua 22), (ua 23), (ua 24), undef, undef, undef, undef, undef, undef, (ua 31), (ua 32), (⟨x1_.1, x1_.2, (movesF p ((behindF p picks.l).1))⟩ : Sl Int).val, iv (((movesF p ((behindF p picks.l).1)).length : Nat) : Int), iv ((a35 : Nat) : Int), (ua 36), (ua 37), (ua 38), (ua 39), (ua 40), (ua 41), (ua 42), (ua 43), (ua 44), (ua 45), undef, undef, undef, undef, undef, undef, undef, undef, undef, undef, undef, undef, undef, undef, undef, undef, undef, undef, undef, undef, undef, undef, undef, undef, undef, undef, undef, undef, undef, undef, undef, undef, undef, undef, undef, undef, undef, undef, undef, undef, undef, undef, undef, undef, undef, undef, undef, undef, undef, undef, undef, undef, undef, undef, undef, undef, undef, undef, undef, undef, undef, undef, undef, undef, undef, undef, undef, undef, undef, undef, undef, undef, undef, undef, undef, undef, undef, undef, undef, undef, undef, undef, undef, undef, undef, undef, undef, undef, undef, undef, undef, undef, undef, undef, undef, undef, undef, undef, undef, undef, undef, undef, undef, undef, undef, undef, undef, undef, undef, undef, undef, undef, undef, undef, undef, undef, undef, undef, undef, undef, undef, undef, undef, undef, undef, undef, undef], []⟩ := ⟨fun n => tq a_ n, ha_⟩
  clear ha_; subst hu_
  refine wp_seq ?_
  refine wp_region_lit ?_
  refine wl_run rfl (rp_int_lss rfl ((a35 : Nat) : Int) (((movesF p ((behindF p picks.l).1)).length : Nat) : Int) rfl rfl) ?_
  simp only [N]
  refine wpList_nil ?_
  refine wp_seq ?_
  refine wp_cond_split rfl (fun hc2 => ?_) (fun hc2 => ?_)
  · --T 2
   have hc2N2 : ((a35 : Nat) : Int) < (((movesF p ((behindF p picks.l).1)).length : Nat) : Int) := (by simpa using hc2)
   obtain ⟨ra, hra⟩ : ∃ r, r = loopL (stepsF_a t) (stepsF_ak p picks.l t) ((movesF p ((behindF p picks.l).1)).drop (a35 + 1)) := ⟨_, rfl⟩
   have hFa2 := hFa.trans (loopL_step (show a35 < (movesF p ((behindF p picks.l).1)).length by omega))
   rw [← hra] at hFa2
   refine wp_skip ?_
   refine wp_seq ?_
   refine wp_block ?_
   refine wp_seq ?_
   refine wp_region_lit ?_
   refine wl_run rfl (rp_indexAddr_sl ((FreshAt.now ((H.ro_at 0 rfl)))) rfl Tryz.underlying44 sz3 rfl a35 rfl (by show _ < (movesF p ((behindF p picks.l).1)).length; omega)) ?_
   simp only [N]
   refine wl_run rfl (rp_load1_sl ((FreshAt.now ((H.ro_at 0 rfl)))) (a35) (by show _ < (movesF p ((behindF p picks.l).1)).length; omega) rfl Tryz.underlying3 rfl 0 rfl (by omega) (v := iv ((movesF p ((behindF p picks.l).1)).getD (a35) default)) rfl) ?_
   simp only [N]
   refine wl_run rfl (rp_assign rfl (v := iv ((movesF p ((behindF p picks.l).1)).getD (a35) default)) rfl) ?_
   simp only [N]
   refine wpList_nil ?_
   refine wp_region_lit ?_
   refine wl_run rfl (rp_move rfl (v := .bool a9) rfl) ?_
   simp only [N]
   refine wl_run rfl (rp_move rfl (v := .bool a9) rfl) ?_
   simp only [N]
   refine wl_g (wn_f rfl rfl) (v := iv ((movesF p ((behindF p picks.l).1)).getD (a35) default)) (fun hg => rp_move rfl (v := iv ((movesF p ((behindF p picks.l).1)).getD (a35) default)) rfl) ?_
   simp only [N]
   refine wl_g (wn_f rfl rfl) (v := iv t) (fun hg => rp_move rfl (v := iv t) rfl) ?_
   simp only [N]
   refine wl_g (wn_f rfl rfl) (v := .bool (((movesF p ((behindF p picks.l).1)).getD (a35) default) == t)) (fun hg => by simp only [gv_t hg]; exact rp_int_eql rfl ((movesF p ((behindF p picks.l).1)).getD (a35) default) t rfl rfl) ?_
   simp only [N]
   refine wl_run rfl (rp_pickO rfl (p := a9) (q := (((movesF p ((behindF p picks.l).1)).getD (a35) default) == t)) rfl rfl rfl) ?_
   simp only [N]
   refine wl_run rfl (rp_assign rfl (v := .bool (a9 || (((movesF p ((behindF p picks.l).1)).getD (a35) default) == t))) rfl) ?_
   simp only [N]
   refine wpList_nil ?_
   refine wp_region_lit ?_
   refine wl_run rfl (rp_int_add rfl ((a35 : Nat) : Int) (1 : Int) rfl rfl (by omega)) ?_
   simp only [N]
   refine wl_run rfl (rp_move rfl (v := iv (((a35 : Nat) : Int) + (1 : Int))) rfl) ?_
   simp only [N]
   refine wpList_nil ?_
   show ∃ n', n' < _ ∧ _
   refine ⟨_, ?_, (a9 || (((movesF p ((behindF p picks.l).1)).getD (a35) default) == t)), (a35 + 1), (by kernel_rfl), H, (by omega), (hFa2).trans (congrFun hra _), rfl⟩
   omega
  · --F 2
   have hc2N3 : (((movesF p ((behindF p picks.l).1)).length : Nat) : Int) ≤ ((a35 : Nat) : Int) := (by simpa using hc2)
   have hFa2 := hFa.trans (loopL_end (show (movesF p ((behindF p picks.l).1)).length ≤ a35 by omega))
   refine wp_exit ?_
   refine wp_seq ?_
   refine wp_region_lit ?_
   refine wl_run rfl (rp_loadN H 1 rfl rfl rfl Tryz.underlying29 rfl sz29 (Nat.le_of_ble_eq_true rfl) (cs' := p.cells) rfl) ?_
   simp only [N]
   refine wl_run rfl (rp_loadWe H 0 rfl rfl rfl Tryz.underlying41 rfl (by first | exact sz41 | (rw [sz41]; congr 1; first | omega | (simp [-List.reduceReplicate]; done) | (simp [-List.reduceReplicate]; omega) | (simp [*, -List.reduceReplicate]; done) | (simp [*, -List.reduceReplicate]; omega))) rfl) ?_
   simp only [N]
   refine wl_run rfl (rp_move rfl (v := iv t) rfl) ?_
   simp only [N]
   refine wl_callE H rfl (rc_go Tryz.func14 (by kernel_rfl) rfl) (moveF_spec p ((behindF p picks.l).1) t (by first | omega | (simp [-List.reduceReplicate]; done) | (simp [-List.reduceReplicate]; omega) | (simp [*, -List.reduceReplicate]; done) | (simp [*, -List.reduceReplicate]; omega)) _ (H.ro_at 1 rfl) (H.ro_at 3 rfl)) ?_
   clear H; intro w9 H
   simp only [N]
   generalize hv50 : (moveF p ((behindF p picks.l).1) t) = v50
   have hFv50 : (stepsF p picks.l t) = stepsF_v50 p picks.l t a9 v50 := by first | (rw [← hv50]; exact hFa2) | exact hFa2
   have hlv50 : (v50.1).length = 142 := by rw [← hv50]; first | omega | (simp [-List.reduceReplicate]; done) | (simp [-List.reduceReplicate]; omega) | (simp [*, -List.reduceReplicate]; done) | (simp [*, -List.reduceReplicate]; omega)
   refine wl_run rfl (rp_move rfl (v := .tuple #[.agg (enc v50.1).toArray, iv v50.2]) rfl) ?_
   simp only [N]
   refine wl_run rfl (rp_extract rfl rfl (v := .agg (enc v50.1).toArray) rfl) ?_
   simp only [N]
   refine wl_run rfl (rp_extract rfl rfl (v := iv v50.2) rfl) ?_
   simp only [N]
   refine wl_alloc H rfl rfl zv41 ?_
   clear H; intro b3 w10 hnb3 H; dsimp only [Value.cells] at H
   simp only [N]
   simp only [enc_replicate] at H
   refine wl_storeW H 0 rfl rfl rfl rfl (vs := (enc v50.1).toArray) rfl (fun v hv => enc_one v (by simpa using hv)) (by first | (rw [sz41]; congr 1; done) | (rw [sz41]; congr 1; first | omega | (simp [-List.reduceReplicate]; done) | (simp [-List.reduceReplicate]; omega) | (simp [*, -List.reduceReplicate]; done) | (simp [*, -List.reduceReplicate]; omega))) (by first | omega | (simp [-List.reduceReplicate]; done) | (simp [-List.reduceReplicate]; omega) | (simp [*, -List.reduceReplicate]; done) | (simp [*, -List.reduceReplicate]; omega)) ?_
   clear H; intro w11 H; simp only [M] at H
   simp only [N]
   refine wl_run rfl (rp_assign rfl (v := iv v50.2) rfl) ?_
   simp only [N]
   refine wpList_nil ?_
   refine wp_seq ?_
   refine wp_seq ?_
   refine wp_region_lit ?_
   refine wl_run rfl (rp_loadN H 2 rfl rfl rfl Tryz.underlying29 rfl sz29 (Nat.le_of_ble_eq_true rfl) (cs' := p.cells) rfl) ?_
   simp only [N]
   refine wl_run rfl (rp_loadWe H 1 rfl rfl rfl Tryz.underlying41 rfl (by first | exact sz41 | (rw [sz41]; congr 1; first | omega | (simp [-List.reduceReplicate]; done) | (simp [-List.reduceReplicate]; omega) | (simp [*, -List.reduceReplicate]; done) | (simp [*, -List.reduceReplicate]; omega))) rfl) ?_
   simp only [N]
   refine wl_callE H rfl (rc_go Tryz.func26 (by kernel_rfl) rfl) (aRightF_spec p ((behindF p picks.l).1) (by first | omega | (simp [-List.reduceReplicate]; done) | (simp [-List.reduceReplicate]; omega) | (simp [*, -List.reduceReplicate]; done) | (simp [*, -List.reduceReplicate]; omega)) _ (H.ro_at 1 rfl) (H.ro_at 3 rfl)) ?_
   clear H; intro w12 H
   simp only [N]
   generalize hv55 : (aRightF p ((behindF p picks.l).1)) = v55
   have hFv55 : (stepsF p picks.l t) = stepsF_v55 p picks.l t a9 v50 v55 := by first | (rw [← hv55]; exact hFv50) | exact hFv50
   refine wl_run rfl (rp_not rfl v55 rfl) ?_
   simp only [N]
   refine wl_run rfl (rp_move rfl (v := .bool (!v55)) rfl) ?_
   simp only [N]
   refine wl_g (wn_f rfl rfl) (v := .bool a9) (fun hg => rp_move rfl (v := .bool a9) rfl) ?_
   simp only [N]
   refine wl_g (wn_f rfl rfl) (v := iv v50.2) (fun hg => rp_move rfl (v := iv v50.2) rfl) ?_
   simp only [N]
   refine wl_g (wn_f rfl rfl) (v := .bool (v50.2 == (0 : Int))) (fun hg => by simp only [gv_t hg]; exact rp_int_eql rfl v50.2 (0 : Int) rfl rfl) ?_
   simp only [N]
   refine wl_g (wn_f rfl rfl) (v := .bool (a9 != (v50.2 == (0 : Int)))) (fun hg => by simp only [gv_t hg]; exact rp_bool_neq rfl Tryz.underlying4 a9 (v50.2 == (0 : Int)) rfl rfl) ?_
   simp only [N]
   refine wl_run rfl (rp_pickO rfl (p := (!v55)) (q := (a9 != (v50.2 == (0 : Int)))) rfl rfl rfl) ?_
   simp only [N]
   refine wl_run rfl (rp_move rfl (v := .bool ((!v55) || (a9 != (v50.2 == (0 : Int))))) rfl) ?_
   simp only [N]
   refine wl_g (wn_f rfl rfl) (v := .bool a9) (fun hg => rp_move rfl (v := .bool a9) rfl) ?_
   simp only [N]
   refine wl_g (wn_f rfl rfl) (v := .bool (!a9)) (fun hg => by simp only [gv_t hg]; exact rp_not rfl a9 rfl) ?_
   simp only [N]
   refine wl_g (wn_f rfl rfl) (v := .bool (!a9)) (fun hg => by simp only [gv_t hg]; exact rp_move rfl (v := .bool (!a9)) rfl) ?_
   simp only [N]
   refine wl_g (wn_tg rfl rfl rfl) (v := iv v50.2) (fun hg => rp_move rfl (v := iv v50.2) rfl) ?_
   simp only [N]
   refine wl_g (wn_tg rfl rfl rfl) (v := .bool (v50.2 != (2 : Int))) (fun hg => by simp only [gv_t hg]; exact rp_int_neq rfl v50.2 (2 : Int) rfl rfl) ?_
   simp only [N]
   refine wl_g (wn_tg rfl rfl rfl) (v := .bool (v50.2 != (2 : Int))) (fun hg => by simp only [gv_t hg]; exact rp_move rfl (v := .bool (v50.2 != (2 : Int))) rfl) ?_
   simp only [N]
   refine wl_g (wn_fg rfl rfl rfl) (v := .agg (enc v50.1).toArray) (fun hg => rp_loadWe H 0 rfl rfl rfl Tryz.underlying41 rfl (by first | exact sz41 | (rw [sz41]; congr 1; first | omega | (simp [-List.reduceReplicate]; done) | (simp [-List.reduceReplicate]; omega) | (simp [*, -List.reduceReplicate]; done) | (simp [*, -List.reduceReplicate]; omega))) rfl) ?_
   simp only [N]
   refine wl_g (wn_fg rfl rfl rfl) (v := .agg (enc (List.replicate 142 (0 : UInt8))).toArray) (fun hg => rp_build rfl (vs := []) rfl (cs := (enc (List.replicate 142 (0 : UInt8))).toArray) (by kernel_rfl)) ?_
   simp only [N]
   refine wl_g (wn_fg rfl rfl rfl) (v := .bool (!(decide (v50.1 = (List.replicate 142 (0 : UInt8)))))) (fun hg => by have x6 : v50.2 = (2 : Int) := (by simpa using (notT (andr hg))); exact (by simp only [gv_t hg]; exact rp_neq_leafs rfl 6 (by decide) (by kernel_rfl) (by kernel_rfl) (ks := (List.replicate 142 (.int .u8))) (by kernel_rfl) (xs := enc v50.1) (ys := enc (List.replicate 142 (0 : UInt8))) rfl rfl (formed_enc Tryz.underlying41 rfl sz41 (by first | omega | (simp [-List.reduceReplicate]; done) | (simp [-List.reduceReplicate]; omega) | (simp [*, -List.reduceReplicate]; done) | (simp [*, -List.reduceReplicate]; omega))) (formed_enc Tryz.underlying41 rfl sz41 (by first | omega | (simp [-List.reduceReplicate]; done) | (simp [-List.reduceReplicate]; omega) | (simp [*, -List.reduceReplicate]; done) | (simp [*, -List.reduceReplicate]; omega))) (fits_enc (by first | omega | (simp [-List.reduceReplicate]; done) | (simp [-List.reduceReplicate]; omega) | (simp [*, -List.reduceReplicate]; done) | (simp [*, -List.reduceReplicate]; omega))) (fits_enc (by first | omega | (simp [-List.reduceReplicate]; done) | (simp [-List.reduceReplicate]; omega) | (simp [*, -List.reduceReplicate]; done) | (simp [*, -List.reduceReplicate]; omega))) (r := (decide (v50.1 = (List.replicate 142 (0 : UInt8))))) (by exact enc_iff _ _))) ?_
   simp only [N]
   refine wl_g (wn_tg rfl rfl rfl) (v := .bool ((v50.2 != (2 : Int)) || (!(decide (v50.1 = (List.replicate 142 (0 : UInt8))))))) (fun hg => rp_pickOg rfl (p := (v50.2 != (2 : Int))) (q := (!(decide (v50.1 = (List.replicate 142 (0 : UInt8)))))) hg rfl rfl rfl) ?_
   simp only [N]
   refine wl_g (wn_f rfl rfl) (v := .bool ((!a9) && ((v50.2 != (2 : Int)) || (!(decide (v50.1 = (List.replicate 142 (0 : UInt8)))))))) (fun hg => rp_pickAg rfl (p := (!a9)) (q := ((v50.2 != (2 : Int)) || (!(decide (v50.1 = (List.replicate 142 (0 : UInt8))))))) hg rfl rfl rfl) ?_
   simp only [N]
   refine wl_run rfl (rp_pickO rfl (p := ((!v55) || (a9 != (v50.2 == (0 : Int))))) (q := ((!a9) && ((v50.2 != (2 : Int)) || (!(decide (v50.1 = (List.replicate 142 (0 : UInt8)))))))) rfl rfl rfl) ?_
   simp only [N]
   refine wpList_nil ?_
   refine wp_cond_split rfl (fun hc3 => ?_) (fun hc3 => ?_)
   · --T 3
    refine wp_seq ?_
    refine wp_region_lit ?_
    refine wl_run rfl (rp_assign rfl (v := .bool false) rfl) ?_
    simp only [N]
    refine wpList_nil ?_
    refine wp_ret ?_
    try simp only [Exit.inBlock, Exit.then, cutP]
    refine bodyPost_ret (results1 rfl (rv_tmp rfl)) rfl ?_
    have hF : (stepsF p picks.l t) = false := (hFv55).trans (bt hc3)
    rw [hF]
    exact ⟨rfl, H.ext⟩
   · --F 3
    refine wp_skip ?_
    refine wp_seq ?_
    refine wp_seq ?_
    refine wp_region_lit ?_
    refine wl_run rfl (rp_move rfl (v := .bool a9) rfl) ?_
    simp only [N]
    refine wl_run rfl (rp_not rfl a9 rfl) ?_
    simp only [N]
    refine wpList_nil ?_
    refine wp_cond_split rfl (fun hc4 => ?_) (fun hc4 => ?_)
    · --T 4
     refine wp_seq ?_
     refine wp_region_mix 13 H (by kernel_rfl) ?_
     refine wxl_take 0 rfl rfl (by kernel_rfl) (by kernel_rfl) (by kernel_rfl) (by kernel_rfl) (by kernel_rfl) (xy_run rfl (fun w H => rp_loadN H 2 rfl rfl rfl Tryz.underlying29 rfl sz29 (Nat.le_of_ble_eq_true rfl) (cs' := p.cells) rfl)) ?_
     simp only [N]
     refine wxl_take 1 rfl rfl (by kernel_rfl) (by kernel_rfl) (by kernel_rfl) (by kernel_rfl) (by kernel_rfl) (xy_run rfl (fun w H => rp_loadWe H 1 rfl rfl rfl Tryz.underlying41 rfl (by first | exact sz41 | (rw [sz41]; congr 1; first | omega | (simp [-List.reduceReplicate]; done) | (simp [-List.reduceReplicate]; omega) | (simp [*, -List.reduceReplicate]; done) | (simp [*, -List.reduceReplicate]; omega))) rfl)) ?_
     simp only [N]
     refine wxl_take 2 rfl rfl (by kernel_rfl) (by kernel_rfl) (by kernel_rfl) (by kernel_rfl) (by kernel_rfl) (xy_call rfl (rc_go Tryz.func29 (by kernel_rfl) rfl) (fun w H => overF_spec p ((behindF p picks.l).1) (by first | omega | (simp [-List.reduceReplicate]; done) | (simp [-List.reduceReplicate]; omega) | (simp [*, -List.reduceReplicate]; done) | (simp [*, -List.reduceReplicate]; omega)) _ (H.ro_at 1 rfl) (H.ro_at 3 rfl))) ?_
     simp only [N]
     generalize hv80 : (overF p ((behindF p picks.l).1)) = v80
     have hFv80 : (stepsF p picks.l t) = stepsF_v80 p picks.l v80 := by first | (rw [← hv80]; exact (hFv55).trans ((bf hc3).trans (bt hc4))) | exact (hFv55).trans ((bf hc3).trans (bt hc4))
     refine wxl_take 3 rfl rfl (by kernel_rfl) (by kernel_rfl) (by kernel_rfl) (by kernel_rfl) (by kernel_rfl) (xy_run rfl (fun w H => rp_loadN H 2 rfl rfl rfl Tryz.underlying29 rfl sz29 (Nat.le_of_ble_eq_true rfl) (cs' := p.cells) rfl)) ?_
     simp only [N]
     refine wxl_take 4 rfl rfl (by kernel_rfl) (by kernel_rfl) (by kernel_rfl) (by kernel_rfl) (by kernel_rfl) (xy_run rfl (fun w H => rp_loadWe H 1 rfl rfl rfl Tryz.underlying41 rfl (by first | exact sz41 | (rw [sz41]; congr 1; first | omega | (simp [-List.reduceReplicate]; done) | (simp [-List.reduceReplicate]; omega) | (simp [*, -List.reduceReplicate]; done) | (simp [*, -List.reduceReplicate]; omega))) rfl)) ?_
     simp only [N]
     refine wxl_fresh 5 rfl rfl (by kernel_rfl) rfl (rc_go Tryz.func11 (by kernel_rfl) rfl) (fun w H => movesF_spec p ((behindF p picks.l).1) (by first | omega | (simp [-List.reduceReplicate]; done) | (simp [-List.reduceReplicate]; omega) | (simp [*, -List.reduceReplicate]; done) | (simp [*, -List.reduceReplicate]; omega)) _ (H.ro_at 1 rfl) (H.ro_at 3 rfl)) ?_
     intro xd83_
     simp only [N, M, Value.cells]
     refine wxl_take 6 rfl rfl (by kernel_rfl) (by kernel_rfl) (by kernel_rfl) (by kernel_rfl) (by kernel_rfl) (xy_run rfl (fun w H => rp_len_sl (s := (⟨xd83_.1, xd83_.2, (movesF p ((behindF p picks.l).1))⟩ : Sl Int)) Tryz.underlying44 rfl)) ?_
     simp only [N]
     refine wxl_take 7 rfl rfl (by kernel_rfl) (by kernel_rfl) (by kernel_rfl) (by kernel_rfl) (by kernel_rfl) (xy_run rfl (fun w H => rp_int_eql rfl (((movesF p ((behindF p picks.l).1)).length : Nat) : Int) (0 : Int) rfl rfl)) ?_
     simp only [N]
     refine wxl_take 8 rfl rfl (by kernel_rfl) (by kernel_rfl) (by kernel_rfl) (by kernel_rfl) (by kernel_rfl) (xy_run rfl (fun w H => rp_bool_eql rfl Tryz.underlying4 v80 ((((movesF p ((behindF p picks.l).1)).length : Nat) : Int) == (0 : Int)) rfl rfl)) ?_
     simp only [N]
     refine wxl_take 9 rfl rfl (by kernel_rfl) (by kernel_rfl) (by kernel_rfl) (by kernel_rfl) (by kernel_rfl) (xy_run rfl (fun w H => rp_move rfl (v := .bool (v80 == ((((movesF p ((behindF p picks.l).1)).length : Nat) : Int) == (0 : Int)))) rfl)) ?_
     simp only [N]
     refine wxl_take 10 rfl rfl (by kernel_rfl) (by kernel_rfl) (by kernel_rfl) (by kernel_rfl) (by kernel_rfl) (xy_gE (wn_t rfl rfl) (fun hg => rc_go Tryz.func13 (by kernel_rfl) rfl) (v := .bool true) (fun hg w H => awake_spec _ (H.ro_at 4 rfl))) ?_
     simp only [N]
     refine wxl_take 11 rfl rfl (by kernel_rfl) (by kernel_rfl) (by kernel_rfl) (by kernel_rfl) (by kernel_rfl) (xy_run rfl (fun w H => rp_pickA rfl (p := (v80 == ((((movesF p ((behindF p picks.l).1)).length : Nat) : Int) == (0 : Int)))) (q := true) rfl rfl rfl)) ?_
     simp only [N]
     refine wxl_take 12 rfl rfl (by kernel_rfl) (by kernel_rfl) (by kernel_rfl) (by kernel_rfl) (by kernel_rfl) (xy_run rfl (fun w H => rp_assign rfl (v := .bool ((v80 == ((((movesF p ((behindF p picks.l).1)).length : Nat) : Int) == (0 : Int))) && true)) rfl)) ?_
     simp only [N]
     refine wpX_done (by kernel_rfl) ?_ _
     clear H; intro w13 H; simp only [List.cons_append, List.nil_append] at H
     refine wp_ret ?_
     try simp only [Exit.inBlock, Exit.then, cutP]
     refine bodyPost_ret (results1 rfl (rv_tmp rfl)) rfl ?_
     have hF : (stepsF p picks.l t) = ((v80 == ((((movesF p ((behindF p picks.l).1)).length : Nat) : Int) == (0 : Int))) && true) := hFv80
     rw [hF]
     exact ⟨rfl, H.ext⟩
    · --F 4
     have ha9 : a9 = true := by simpa using hc4
     have hm0 : (v50.2 == (0 : Int)) = true := by
       cases h8 : (v50.2 == (0 : Int)) with
       | true => rfl
       | false => (rw [ha9, h8] at hc3; simp at hc3)
     have hm1 := move_may (p := p) (s := (behindF p picks.l).1) (t := t) (by rw [hv50]; simpa using hm0)
     have hm2 := (valid_iff (behindF_len0 p picks.l)).1 hm1.1
     obtain ⟨hm3, hm4, hm5, hm6, hm7⟩ := may_facts hm2 hm1.2
     have hbl := behindF_len0 p picks.l
     have hsp : (v50.1.take ((t).toNat * 9) ++ (((behindF p picks.l).1.drop ((t).toNat * 9)).take 9) ++ v50.1.drop ((t).toNat * 9 + (((behindF p picks.l).1.drop ((t).toNat * 9)).take 9).length)).length = 142 := by simp only [List.length_append, List.length_take, List.length_drop]; omega
     refine wp_skip ?_
     refine wp_seq ?_
     refine wp_region_mix 14 H (by kernel_rfl) ?_
     refine wxl_take 0 rfl rfl (by kernel_rfl) (by kernel_rfl) (by kernel_rfl) (by kernel_rfl) (by kernel_rfl) (xy_run rfl (fun w H => rp_fieldAddr rfl Tryz.underlying29 rfl 3 rfl sz24 rfl (3) rfl)) ?_
     simp only [N]
     refine wxl_take 1 rfl rfl (by kernel_rfl) (by kernel_rfl) (by kernel_rfl) (by kernel_rfl) (by kernel_rfl) (xy_run rfl (fun w H => rp_load1 H 2 rfl rfl rfl Tryz.underlying24 rfl (v := p.threads.val) rfl)) ?_
     simp only [N]
     refine wxl_take 2 rfl rfl (by kernel_rfl) (by kernel_rfl) (by kernel_rfl) (by kernel_rfl) (by kernel_rfl) (xy_run rfl (fun w H => rp_move rfl (v := iv t) rfl)) ?_
     simp only [N]
     refine wxl_take 3 rfl rfl (by kernel_rfl) (by kernel_rfl) (by kernel_rfl) (by kernel_rfl) (by kernel_rfl) (xy_run rfl (fun w H => rp_indexAddr_slI (IsProg.threads ((H.ro_at 1 rfl))) rfl Tryz.underlying24 sz53 rfl t (by omega) rfl (by omega))) ?_
     simp only [N]
     refine wxl_take 4 rfl rfl (by kernel_rfl) (by kernel_rfl) (by kernel_rfl) (by kernel_rfl) (by kernel_rfl) (xy_run rfl (fun w H => rp_load1_sl (IsProg.threads ((H.ro_at 1 rfl))) ((t).toNat) (by omega) rfl Tryz.underlying53 rfl 0 rfl (by omega) (v := (p.threads.l.getD ((t).toNat) default).val) rfl)) ?_
     simp only [N]
     refine wxl_take 5 rfl rfl (by kernel_rfl) (by kernel_rfl) (by kernel_rfl) (by kernel_rfl) (by kernel_rfl) (xy_run rfl (fun w H => rp_move rfl (v := iv t) rfl)) ?_
     simp only [N]
     refine wxl_take 6 rfl rfl (by kernel_rfl) (by kernel_rfl) (by kernel_rfl) (by kernel_rfl) (by kernel_rfl) (xy_run rfl (fun w H => rp_fieldAddr rfl Tryz.underlying41 rfl 0 rfl sz33 rfl (0) rfl)) ?_
     simp only [N]
     refine wxl_take 7 rfl rfl (by kernel_rfl) (by kernel_rfl) (by kernel_rfl) (by kernel_rfl) (by kernel_rfl) (xy_run rfl (fun w H => rp_indexAddr_arrI rfl Tryz.underlying33 sz32 rfl t (by omega) rfl (by omega) ((t).toNat * 9) (by omega))) ?_
     simp only [N]
     refine wxl_take 8 rfl rfl (by kernel_rfl) (by kernel_rfl) (by kernel_rfl) (by kernel_rfl) (by kernel_rfl) (xy_run rfl (fun w H => rp_fieldAddr rfl Tryz.underlying32 rfl 0 rfl sz5 rfl ((t).toNat * 9) (by omega))) ?_
     simp only [N]
     refine wxl_take 9 rfl rfl (by kernel_rfl) (by kernel_rfl) (by kernel_rfl) (by kernel_rfl) (by kernel_rfl) (xy_run rfl (fun w H => rp_load1e H 1 rfl rfl rfl Tryz.underlying5 rfl ((t).toNat * 9) rfl (by first | omega | (simp [-List.reduceReplicate]; done) | (simp [-List.reduceReplicate]; omega) | (simp [*, -List.reduceReplicate]; done) | (simp [*, -List.reduceReplicate]; omega)))) ?_
     simp only [N]
     refine wxl_take 10 rfl rfl (by kernel_rfl) (by kernel_rfl) (by kernel_rfl) (by kernel_rfl) (by kernel_rfl) (xy_run rfl (fun w H => rp_indexAddr_sl ((IsProg.ins_at (H.ro_at 1 rfl) (t := (t).toNat) (by omega))) rfl Tryz.underlying53 sz52 rfl (((behindF p picks.l).1.getD ((t).toNat * 9) 0)).toNat rfl (by omega))) ?_
     simp only [N]
     refine wxl_take 11 rfl rfl (by kernel_rfl) (by kernel_rfl) (by kernel_rfl) (by kernel_rfl) (by kernel_rfl) (xy_run rfl (fun w H => rp_loadN_sl ((IsProg.ins_at (H.ro_at 1 rfl) (t := (t).toNat) (by omega))) ((((behindF p picks.l).1.getD ((t).toNat * 9) 0)).toNat) (by omega) rfl Tryz.underlying52 rfl rfl sz52)) ?_
     simp only [N]
     refine wxl_alloc 12 rfl rfl (by kernel_rfl) rfl (xa_alloc rfl zv52) ?_
     intro bd14
     simp only [N, M, Value.cells]
     refine wxl_store 13 0 rfl rfl (by kernel_rfl) rfl rfl (xs_whole rfl rfl (vs := (((p.threads.l.getD ((t).toNat) default).l.getD ((((behindF p picks.l).1.getD ((t).toNat * 9) 0)).toNat) default).cells).toArray) rfl (Ins.cells_one _) (by first | exact sz52 | (rw [sz52]; congr 1; first | omega | (simp [-List.reduceReplicate]; done) | (simp [-List.reduceReplicate]; omega) | (simp [*, -List.reduceReplicate]; done) | (simp [*, -List.reduceReplicate]; omega))) (by first | rfl | first | omega | (simp [-List.reduceReplicate]; done) | (simp [-List.reduceReplicate]; omega) | (simp [*, -List.reduceReplicate]; done) | (simp [*, -List.reduceReplicate]; omega))) ?_
     simp only [N, M, Value.cells]
     refine wpX_done (by kernel_rfl) ?_ _
     clear H; intro w14 H; simp only [List.cons_append, List.nil_append] at H
     refine wp_seq ?_
     refine wp_region_lit ?_
     refine wl_run rfl (rp_loadWe H 1 rfl rfl rfl Tryz.underlying41 rfl (by first | exact sz41 | (rw [sz41]; congr 1; first | omega | (simp [-List.reduceReplicate]; done) | (simp [-List.reduceReplicate]; omega) | (simp [*, -List.reduceReplicate]; done) | (simp [*, -List.reduceReplicate]; omega))) rfl) ?_
     simp only [N]
     refine wl_alloc H rfl rfl zv41 ?_
     clear H; intro b4 w15 hnb4 H; dsimp only [Value.cells] at H
     simp only [N]
     simp only [enc_replicate] at H
     refine wl_storeW H 0 rfl rfl rfl rfl (vs := (enc v50.1).toArray) rfl (fun v hv => enc_one v (by simpa using hv)) (by first | (rw [sz41]; congr 1; done) | (rw [sz41]; congr 1; first | omega | (simp [-List.reduceReplicate]; done) | (simp [-List.reduceReplicate]; omega) | (simp [*, -List.reduceReplicate]; done) | (simp [*, -List.reduceReplicate]; omega))) (by first | omega | (simp [-List.reduceReplicate]; done) | (simp [-List.reduceReplicate]; omega) | (simp [*, -List.reduceReplicate]; done) | (simp [*, -List.reduceReplicate]; omega)) ?_
     clear H; intro w16 H; simp only [M] at H
     simp only [N]
     refine wpList_nil ?_
     refine wp_seq ?_
     refine wp_region_lit ?_
     refine wl_run rfl (rp_move rfl (v := iv t) rfl) ?_
     simp only [N]
     refine wl_run rfl (rp_move rfl (v := iv t) rfl) ?_
     simp only [N]
     refine wl_run rfl (rp_fieldAddr rfl Tryz.underlying41 rfl 0 rfl sz33 rfl (0) rfl) ?_
     simp only [N]
     refine wl_run rfl (rp_indexAddr_arrI rfl Tryz.underlying33 sz32 rfl t (by omega) rfl (by omega) ((t).toNat * 9) (by omega)) ?_
     simp only [N]
     refine wl_run rfl (rp_loadNe H 3 rfl rfl rfl Tryz.underlying32 rfl sz32 ((t).toNat * 9) (by omega) (by first | omega | (simp [-List.reduceReplicate]; done) | (simp [-List.reduceReplicate]; omega) | (simp [*, -List.reduceReplicate]; done) | (simp [*, -List.reduceReplicate]; omega))) ?_
     simp only [N]
     refine wl_run rfl (rp_fieldAddr rfl Tryz.underlying41 rfl 0 rfl sz33 rfl (0) rfl) ?_
     simp only [N]
     refine wl_run rfl (rp_indexAddr_arrI rfl Tryz.underlying33 sz32 rfl t (by omega) rfl (by omega) ((t).toNat * 9) (by omega)) ?_
     simp only [N]
     refine wl_storeNe H 0 rfl rfl rfl rfl (((behindF p picks.l).1.drop ((t).toNat * 9)).take 9) rfl (by first | exact sz32 | (rw [sz32]; congr 1; first | omega | (simp [-List.reduceReplicate]; done) | (simp [-List.reduceReplicate]; omega) | (simp [*, -List.reduceReplicate]; done) | (simp [*, -List.reduceReplicate]; omega))) ((t).toNat * 9) rfl (by first | omega | (simp [-List.reduceReplicate]; done) | (simp [-List.reduceReplicate]; omega) | (simp [*, -List.reduceReplicate]; done) | (simp [*, -List.reduceReplicate]; omega)) ?_
     clear H; intro w17 H; simp only [M] at H
     simp only [N]
     refine wpList_nil ?_
     refine wp_seq ?_
     refine wp_region_mix 9 H (by kernel_rfl) ?_
     refine wxl_take 0 rfl rfl (by kernel_rfl) (by kernel_rfl) (by kernel_rfl) (by kernel_rfl) (by kernel_rfl) (xy_run rfl (fun w H => rp_fieldAddr rfl Tryz.underlying52 rfl 2 rfl sz5 rfl (2) rfl)) ?_
     simp only [N]
     refine wxl_take 1 rfl rfl (by kernel_rfl) (by kernel_rfl) (by kernel_rfl) (by kernel_rfl) (by kernel_rfl) (xy_run rfl (fun w H => rp_load1 H 1 rfl rfl rfl Tryz.underlying5 rfl (v := bv ((p.threads.l.getD ((t).toNat) default).l.getD ((((behindF p picks.l).1.getD ((t).toNat * 9) 0)).toNat) default).loc) rfl)) ?_
     simp only [N]
     refine wxl_take 2 rfl rfl (by kernel_rfl) (by kernel_rfl) (by kernel_rfl) (by kernel_rfl) (by kernel_rfl) (xy_run rfl (fun w H => rp_fieldAddr rfl Tryz.underlying52 rfl 2 rfl sz5 rfl (2) rfl)) ?_
     simp only [N]
     refine wxl_take 3 rfl rfl (by kernel_rfl) (by kernel_rfl) (by kernel_rfl) (by kernel_rfl) (by kernel_rfl) (xy_run rfl (fun w H => rp_load1 H 1 rfl rfl rfl Tryz.underlying5 rfl (v := bv ((p.threads.l.getD ((t).toNat) default).l.getD ((((behindF p picks.l).1.getD ((t).toNat * 9) 0)).toNat) default).loc) rfl)) ?_
     simp only [N]
     refine wxl_take 4 rfl rfl (by kernel_rfl) (by kernel_rfl) (by kernel_rfl) (by kernel_rfl) (by kernel_rfl) (xy_run rfl (fun w H => rp_fieldAddr rfl Tryz.underlying41 rfl 36 rfl sz34 rfl (36) rfl)) ?_
     simp only [N]
     refine wxl_take 5 rfl rfl (by kernel_rfl) (by kernel_rfl) (by kernel_rfl) (by kernel_rfl) (by kernel_rfl) (xy_run rfl (fun w H => rp_indexAddr_arr rfl Tryz.underlying34 sz5 rfl (((p.threads.l.getD ((t).toNat) default).l.getD ((((behindF p picks.l).1.getD ((t).toNat * 9) 0)).toNat) default).loc).toNat rfl (by omega) (36 + (((p.threads.l.getD ((t).toNat) default).l.getD ((((behindF p picks.l).1.getD ((t).toNat * 9) 0)).toNat) default).loc).toNat) (by omega))) ?_
     simp only [N]
     refine wxl_take 6 rfl rfl (by kernel_rfl) (by kernel_rfl) (by kernel_rfl) (by kernel_rfl) (by kernel_rfl) (xy_run rfl (fun w H => rp_load1e H 3 rfl rfl rfl Tryz.underlying5 rfl (36 + (((p.threads.l.getD ((t).toNat) default).l.getD ((((behindF p picks.l).1.getD ((t).toNat * 9) 0)).toNat) default).loc).toNat) rfl (by first | omega | (simp [-List.reduceReplicate]; done) | (simp [-List.reduceReplicate]; omega) | (simp [*, -List.reduceReplicate]; done) | (simp [*, -List.reduceReplicate]; omega)))) ?_
     simp only [N]
     refine wxl_take 7 rfl rfl (by kernel_rfl) (by kernel_rfl) (by kernel_rfl) (by kernel_rfl) (by kernel_rfl) (xy_run rfl (fun w H => rp_fieldAddr rfl Tryz.underlying41 rfl 36 rfl sz34 rfl (36) rfl)) ?_
     simp only [N]
     refine wxl_take 8 rfl rfl (by kernel_rfl) (by kernel_rfl) (by kernel_rfl) (by kernel_rfl) (by kernel_rfl) (xy_run rfl (fun w H => rp_indexAddr_arr rfl Tryz.underlying34 sz5 rfl (((p.threads.l.getD ((t).toNat) default).l.getD ((((behindF p picks.l).1.getD ((t).toNat * 9) 0)).toNat) default).loc).toNat rfl (by omega) (36 + (((p.threads.l.getD ((t).toNat) default).l.getD ((((behindF p picks.l).1.getD ((t).toNat * 9) 0)).toNat) default).loc).toNat) (by omega))) ?_
     simp only [N]
     refine wpX_tail (n := 0) _ rfl rfl (by kernel_rfl) ?_
     clear H; intro w18 H; simp only [List.cons_append, List.nil_append] at H
     refine wl_store1e H 0 rfl rfl rfl rfl ((behindF p picks.l).1.getD (36 + (((p.threads.l.getD ((t).toNat) default).l.getD ((((behindF p picks.l).1.getD ((t).toNat * 9) 0)).toNat) default).loc).toNat) 0) rfl sz5 (36 + (((p.threads.l.getD ((t).toNat) default).l.getD ((((behindF p picks.l).1.getD ((t).toNat * 9) 0)).toNat) default).loc).toNat) rfl (by first | omega | (simp [-List.reduceReplicate]; done) | (simp [-List.reduceReplicate]; omega) | (simp [*, -List.reduceReplicate]; done) | (simp [*, -List.reduceReplicate]; omega)) ?_
     clear H; intro w19 H; simp only [M] at H
     simp only [N]
     refine wpList_nil ?_
     refine wp_seq ?_
     refine wp_region_lit ?_
     refine wl_run rfl (rp_fieldAddr rfl Tryz.underlying52 rfl 0 rfl sz5 rfl (0) rfl) ?_
     simp only [N]
     refine wl_run rfl (rp_load1 H 1 rfl rfl rfl Tryz.underlying5 rfl (v := bv ((p.threads.l.getD ((t).toNat) default).l.getD ((((behindF p picks.l).1.getD ((t).toNat * 9) 0)).toNat) default).op) rfl) ?_
     simp only [N]
     refine wl_run rfl (rp_u8_eql rfl ((p.threads.l.getD ((t).toNat) default).l.getD ((((behindF p picks.l).1.getD ((t).toNat * 9) 0)).toNat) default).op (3 : UInt8) rfl rfl) ?_
     simp only [N]
     refine wl_run rfl (rp_move rfl (v := .bool (((p.threads.l.getD ((t).toNat) default).l.getD ((((behindF p picks.l).1.getD ((t).toNat * 9) 0)).toNat) default).op == (3 : UInt8))) rfl) ?_
     simp only [N]
     refine wl_g (wn_f rfl rfl) (v := .pointer (some ⟨bd14, 0, none⟩)) (fun hg => rp_fieldAddr rfl Tryz.underlying52 rfl 0 rfl sz5 rfl (0) rfl) ?_
     simp only [N]
     refine wl_g (wn_f rfl rfl) (v := bv ((p.threads.l.getD ((t).toNat) default).l.getD ((((behindF p picks.l).1.getD ((t).toNat * 9) 0)).toNat) default).op) (fun hg => by have x8 : (((p.threads.l.getD ((t).toNat) default).l.getD ((((behindF p picks.l).1.getD ((t).toNat * 9) 0)).toNat) default).op).toNat ≠ 3 := u8_ne (notT hg); exact (by simp only [gv_t hg]; exact rp_load1 H 1 rfl rfl rfl Tryz.underlying5 rfl (v := bv ((p.threads.l.getD ((t).toNat) default).l.getD ((((behindF p picks.l).1.getD ((t).toNat * 9) 0)).toNat) default).op) rfl)) ?_
     simp only [N]
     refine wl_g (wn_f rfl rfl) (v := .bool (((p.threads.l.getD ((t).toNat) default).l.getD ((((behindF p picks.l).1.getD ((t).toNat * 9) 0)).toNat) default).op == (8 : UInt8))) (fun hg => by have x9 : (((p.threads.l.getD ((t).toNat) default).l.getD ((((behindF p picks.l).1.getD ((t).toNat * 9) 0)).toNat) default).op).toNat ≠ 3 := u8_ne (notT hg); exact (by simp only [gv_t hg]; exact rp_u8_eql rfl ((p.threads.l.getD ((t).toNat) default).l.getD ((((behindF p picks.l).1.getD ((t).toNat * 9) 0)).toNat) default).op (8 : UInt8) rfl rfl)) ?_
     simp only [N]
     refine wl_run rfl (rp_pickO rfl (p := (((p.threads.l.getD ((t).toNat) default).l.getD ((((behindF p picks.l).1.getD ((t).toNat * 9) 0)).toNat) default).op == (3 : UInt8))) (q := (((p.threads.l.getD ((t).toNat) default).l.getD ((((behindF p picks.l).1.getD ((t).toNat * 9) 0)).toNat) default).op == (8 : UInt8))) rfl rfl rfl) ?_
     simp only [N]
     refine wl_run rfl (rp_move rfl (v := .bool ((((p.threads.l.getD ((t).toNat) default).l.getD ((((behindF p picks.l).1.getD ((t).toNat * 9) 0)).toNat) default).op == (3 : UInt8)) || (((p.threads.l.getD ((t).toNat) default).l.getD ((((behindF p picks.l).1.getD ((t).toNat * 9) 0)).toNat) default).op == (8 : UInt8)))) rfl) ?_
     simp only [N]
     refine wl_g (wn_f rfl rfl) (v := .pointer (some ⟨bd14, 0, none⟩)) (fun hg => rp_fieldAddr rfl Tryz.underlying52 rfl 0 rfl sz5 rfl (0) rfl) ?_
     simp only [N]
     refine wl_g (wn_f rfl rfl) (v := bv ((p.threads.l.getD ((t).toNat) default).l.getD ((((behindF p picks.l).1.getD ((t).toNat * 9) 0)).toNat) default).op) (fun hg => by have x12 : (((p.threads.l.getD ((t).toNat) default).l.getD ((((behindF p picks.l).1.getD ((t).toNat * 9) 0)).toNat) default).op).toNat ≠ 3 := u8_ne (orl (notT hg)); have x13 : (((p.threads.l.getD ((t).toNat) default).l.getD ((((behindF p picks.l).1.getD ((t).toNat * 9) 0)).toNat) default).op).toNat ≠ 8 := u8_ne (orr (notT hg)); exact (by simp only [gv_t hg]; exact rp_load1 H 1 rfl rfl rfl Tryz.underlying5 rfl (v := bv ((p.threads.l.getD ((t).toNat) default).l.getD ((((behindF p picks.l).1.getD ((t).toNat * 9) 0)).toNat) default).op) rfl)) ?_
     simp only [N]
     refine wl_g (wn_f rfl rfl) (v := .bool (((p.threads.l.getD ((t).toNat) default).l.getD ((((behindF p picks.l).1.getD ((t).toNat * 9) 0)).toNat) default).op == (7 : UInt8))) (fun hg => by have x14 : (((p.threads.l.getD ((t).toNat) default).l.getD ((((behindF p picks.l).1.getD ((t).toNat * 9) 0)).toNat) default).op).toNat ≠ 3 := u8_ne (orl (notT hg)); have x15 : (((p.threads.l.getD ((t).toNat) default).l.getD ((((behindF p picks.l).1.getD ((t).toNat * 9) 0)).toNat) default).op).toNat ≠ 8 := u8_ne (orr (notT hg)); exact (by simp only [gv_t hg]; exact rp_u8_eql rfl ((p.threads.l.getD ((t).toNat) default).l.getD ((((behindF p picks.l).1.getD ((t).toNat * 9) 0)).toNat) default).op (7 : UInt8) rfl rfl)) ?_
     simp only [N]
     refine wl_run rfl (rp_pickO rfl (p := ((((p.threads.l.getD ((t).toNat) default).l.getD ((((behindF p picks.l).1.getD ((t).toNat * 9) 0)).toNat) default).op == (3 : UInt8)) || (((p.threads.l.getD ((t).toNat) default).l.getD ((((behindF p picks.l).1.getD ((t).toNat * 9) 0)).toNat) default).op == (8 : UInt8)))) (q := (((p.threads.l.getD ((t).toNat) default).l.getD ((((behindF p picks.l).1.getD ((t).toNat * 9) 0)).toNat) default).op == (7 : UInt8))) rfl rfl rfl) ?_
     simp only [N]
     refine wl_run rfl (rp_assign rfl (v := .bool (((((p.threads.l.getD ((t).toNat) default).l.getD ((((behindF p picks.l).1.getD ((t).toNat * 9) 0)).toNat) default).op == (3 : UInt8)) || (((p.threads.l.getD ((t).toNat) default).l.getD ((((behindF p picks.l).1.getD ((t).toNat * 9) 0)).toNat) default).op == (8 : UInt8))) || (((p.threads.l.getD ((t).toNat) default).l.getD ((((behindF p picks.l).1.getD ((t).toNat * 9) 0)).toNat) default).op == (7 : UInt8)))) rfl) ?_
     simp only [N]
     refine wpList_nil ?_
     refine wp_seq ?_
     refine wp_region_own H (by kernel_rfl) (by kernel_rfl) ?_
     refine wq_run rfl (fun w H => rp_loadWe H 0 rfl rfl rfl Tryz.underlying41 rfl (by first | exact sz41 | (rw [sz41]; congr 1; first | omega | (simp [-List.reduceReplicate]; done) | (simp [-List.reduceReplicate]; omega) | (simp [*, -List.reduceReplicate]; done) | (simp [*, -List.reduceReplicate]; omega))) rfl) ?_
     simp only [N]
     refine wq_run rfl (fun w H => rp_loadWe H 3 rfl rfl rfl Tryz.underlying41 rfl (by first | exact sz41 | (rw [sz41]; congr 1; first | omega | (simp [-List.reduceReplicate]; done) | (simp [-List.reduceReplicate]; omega) | (simp [*, -List.reduceReplicate]; done) | (simp [*, -List.reduceReplicate]; omega))) rfl) ?_
     simp only [N]
     refine wq_run rfl (fun w H => rp_eql_leafs rfl 6 (by decide) (by kernel_rfl) (by kernel_rfl) (ks := (List.replicate 142 (.int .u8))) (by kernel_rfl) (xs := enc ((v50.1.take ((t).toNat * 9) ++ (((behindF p picks.l).1.drop ((t).toNat * 9)).take 9) ++ v50.1.drop ((t).toNat * 9 + (((behindF p picks.l).1.drop ((t).toNat * 9)).take 9).length)).set (36 + (((p.threads.l.getD ((t).toNat) default).l.getD ((((behindF p picks.l).1.getD ((t).toNat * 9) 0)).toNat) default).loc).toNat) ((behindF p picks.l).1.getD (36 + (((p.threads.l.getD ((t).toNat) default).l.getD ((((behindF p picks.l).1.getD ((t).toNat * 9) 0)).toNat) default).loc).toNat) 0))) (ys := enc (behindF p picks.l).1) rfl rfl (formed_enc Tryz.underlying41 rfl sz41 (by first | omega | (simp [-List.reduceReplicate]; done) | (simp [-List.reduceReplicate]; omega) | (simp [*, -List.reduceReplicate]; done) | (simp [*, -List.reduceReplicate]; omega))) (formed_enc Tryz.underlying41 rfl sz41 (by first | omega | (simp [-List.reduceReplicate]; done) | (simp [-List.reduceReplicate]; omega) | (simp [*, -List.reduceReplicate]; done) | (simp [*, -List.reduceReplicate]; omega))) (fits_enc (by first | omega | (simp [-List.reduceReplicate]; done) | (simp [-List.reduceReplicate]; omega) | (simp [*, -List.reduceReplicate]; done) | (simp [*, -List.reduceReplicate]; omega))) (fits_enc (by first | omega | (simp [-List.reduceReplicate]; done) | (simp [-List.reduceReplicate]; omega) | (simp [*, -List.reduceReplicate]; done) | (simp [*, -List.reduceReplicate]; omega))) (r := (decide (((v50.1.take ((t).toNat * 9) ++ (((behindF p picks.l).1.drop ((t).toNat * 9)).take 9) ++ v50.1.drop ((t).toNat * 9 + (((behindF p picks.l).1.drop ((t).toNat * 9)).take 9).length)).set (36 + (((p.threads.l.getD ((t).toNat) default).l.getD ((((behindF p picks.l).1.getD ((t).toNat * 9) 0)).toNat) default).loc).toNat) ((behindF p picks.l).1.getD (36 + (((p.threads.l.getD ((t).toNat) default).l.getD ((((behindF p picks.l).1.getD ((t).toNat * 9) 0)).toNat) default).loc).toNat) 0)) = (behindF p picks.l).1))) (by exact enc_iff _ _)) ?_
     simp only [N]
     refine wq_run rfl (fun w H => rp_move rfl (v := .bool (decide (((v50.1.take ((t).toNat * 9) ++ (((behindF p picks.l).1.drop ((t).toNat * 9)).take 9) ++ v50.1.drop ((t).toNat * 9 + (((behindF p picks.l).1.drop ((t).toNat * 9)).take 9).length)).set (36 + (((p.threads.l.getD ((t).toNat) default).l.getD ((((behindF p picks.l).1.getD ((t).toNat * 9) 0)).toNat) default).loc).toNat) ((behindF p picks.l).1.getD (36 + (((p.threads.l.getD ((t).toNat) default).l.getD ((((behindF p picks.l).1.getD ((t).toNat * 9) 0)).toNat) default).loc).toNat) 0)) = (behindF p picks.l).1))) rfl) ?_
     simp only [N]
     refine wq_g (wn_t rfl rfl) (v := .agg (p.cells).toArray) (fun hg w H => rp_loadN H 4 rfl rfl rfl Tryz.underlying29 rfl sz29 (Nat.le_of_ble_eq_true rfl) (cs' := p.cells) rfl) ?_
     simp only [N]
     refine wq_g (wn_t rfl rfl) (v := .agg (enc v50.1).toArray) (fun hg w H => rp_loadWe H 2 rfl rfl rfl Tryz.underlying41 rfl (by first | exact sz41 | (rw [sz41]; congr 1; first | omega | (simp [-List.reduceReplicate]; done) | (simp [-List.reduceReplicate]; omega) | (simp [*, -List.reduceReplicate]; done) | (simp [*, -List.reduceReplicate]; omega))) rfl) ?_
     simp only [N]
     refine wq_gE (wn_t rfl rfl) (fun hg => fun w => by simp only [gv_t hg]; exact rc_go Tryz.func26 (by kernel_rfl) rfl w) (v := .bool (aRightF p v50.1)) (fun hg w H => aRightF_spec p v50.1 (by first | omega | (simp [-List.reduceReplicate]; done) | (simp [-List.reduceReplicate]; omega) | (simp [*, -List.reduceReplicate]; done) | (simp [*, -List.reduceReplicate]; omega)) _ (H.ro_at 1 rfl) (H.ro_at 3 rfl)) ?_
     simp only [N]
     refine wq_run rfl (fun w H => rp_pickA rfl (p := (decide (((v50.1.take ((t).toNat * 9) ++ (((behindF p picks.l).1.drop ((t).toNat * 9)).take 9) ++ v50.1.drop ((t).toNat * 9 + (((behindF p picks.l).1.drop ((t).toNat * 9)).take 9).length)).set (36 + (((p.threads.l.getD ((t).toNat) default).l.getD ((((behindF p picks.l).1.getD ((t).toNat * 9) 0)).toNat) default).loc).toNat) ((behindF p picks.l).1.getD (36 + (((p.threads.l.getD ((t).toNat) default).l.getD ((((behindF p picks.l).1.getD ((t).toNat * 9) 0)).toNat) default).loc).toNat) 0)) = (behindF p picks.l).1))) (q := (aRightF p v50.1)) rfl rfl rfl) ?_
     simp only [N]
     refine wq_run rfl (fun w H => rp_move rfl (v := .bool ((decide (((v50.1.take ((t).toNat * 9) ++ (((behindF p picks.l).1.drop ((t).toNat * 9)).take 9) ++ v50.1.drop ((t).toNat * 9 + (((behindF p picks.l).1.drop ((t).toNat * 9)).take 9).length)).set (36 + (((p.threads.l.getD ((t).toNat) default).l.getD ((((behindF p picks.l).1.getD ((t).toNat * 9) 0)).toNat) default).loc).toNat) ((behindF p picks.l).1.getD (36 + (((p.threads.l.getD ((t).toNat) default).l.getD ((((behindF p picks.l).1.getD ((t).toNat * 9) 0)).toNat) default).loc).toNat) 0)) = (behindF p picks.l).1)) && (aRightF p v50.1))) rfl) ?_
     simp only [N]
     refine wq_g (wn_t rfl rfl) (v := iv t) (fun hg w H => rp_move rfl (v := iv t) rfl) ?_
     simp only [N]
     refine wq_g (wn_t rfl rfl) (v := .pointer (some ⟨b3, 0, none⟩)) (fun hg w H => rp_fieldAddr rfl Tryz.underlying41 rfl 0 rfl sz33 rfl (0) rfl) ?_
     simp only [N]
     refine wq_g (wn_t rfl rfl) (v := .pointer (some ⟨b3, (t).toNat * 9, none⟩)) (fun hg w H => by simp only [gv_t hg]; exact rp_indexAddr_arrI rfl Tryz.underlying33 sz32 rfl t (by omega) rfl (by omega) ((t).toNat * 9) (by omega)) ?_
     simp only [N]
     refine wq_g (wn_t rfl rfl) (v := .pointer (some ⟨b3, (t).toNat * 9, none⟩)) (fun hg w H => by simp only [gv_t hg]; exact rp_fieldAddr rfl Tryz.underlying32 rfl 0 rfl sz5 rfl ((t).toNat * 9) (by omega)) ?_
     simp only [N]
     refine wq_g (wn_t rfl rfl) (v := bv (v50.1.getD ((t).toNat * 9) 0)) (fun hg w H => by simp only [gv_t hg]; exact rp_load1e H 2 rfl rfl rfl Tryz.underlying5 rfl ((t).toNat * 9) rfl (by first | omega | (simp [-List.reduceReplicate]; done) | (simp [-List.reduceReplicate]; omega) | (simp [*, -List.reduceReplicate]; done) | (simp [*, -List.reduceReplicate]; omega))) ?_
     simp only [N]
     refine wq_g (wn_t rfl rfl) (v := iv t) (fun hg w H => rp_move rfl (v := iv t) rfl) ?_
     simp only [N]
     refine wq_g (wn_t rfl rfl) (v := .pointer (some ⟨b2, 0, none⟩)) (fun hg w H => rp_fieldAddr rfl Tryz.underlying41 rfl 0 rfl sz33 rfl (0) rfl) ?_
     simp only [N]
     refine wq_g (wn_t rfl rfl) (v := .pointer (some ⟨b2, (t).toNat * 9, none⟩)) (fun hg w H => by simp only [gv_t hg]; exact rp_indexAddr_arrI rfl Tryz.underlying33 sz32 rfl t (by omega) rfl (by omega) ((t).toNat * 9) (by omega)) ?_
     simp only [N]
     refine wq_g (wn_t rfl rfl) (v := .pointer (some ⟨b2, (t).toNat * 9, none⟩)) (fun hg w H => by simp only [gv_t hg]; exact rp_fieldAddr rfl Tryz.underlying32 rfl 0 rfl sz5 rfl ((t).toNat * 9) (by omega)) ?_
     simp only [N]
     refine wq_g (wn_t rfl rfl) (v := bv ((behindF p picks.l).1.getD ((t).toNat * 9) 0)) (fun hg w H => by simp only [gv_t hg]; exact rp_load1e H 3 rfl rfl rfl Tryz.underlying5 rfl ((t).toNat * 9) rfl (by first | omega | (simp [-List.reduceReplicate]; done) | (simp [-List.reduceReplicate]; omega) | (simp [*, -List.reduceReplicate]; done) | (simp [*, -List.reduceReplicate]; omega))) ?_
     simp only [N]
     refine wq_g (wn_t rfl rfl) (v := .bool (decide (((behindF p picks.l).1.getD ((t).toNat * 9) 0) < (v50.1.getD ((t).toNat * 9) 0)))) (fun hg w H => by simp only [gv_t hg]; exact rp_u8_gtr rfl (v50.1.getD ((t).toNat * 9) 0) ((behindF p picks.l).1.getD ((t).toNat * 9) 0) rfl rfl) ?_
     simp only [N]
     refine wq_run rfl (fun w H => rp_pickA rfl (p := ((decide (((v50.1.take ((t).toNat * 9) ++ (((behindF p picks.l).1.drop ((t).toNat * 9)).take 9) ++ v50.1.drop ((t).toNat * 9 + (((behindF p picks.l).1.drop ((t).toNat * 9)).take 9).length)).set (36 + (((p.threads.l.getD ((t).toNat) default).l.getD ((((behindF p picks.l).1.getD ((t).toNat * 9) 0)).toNat) default).loc).toNat) ((behindF p picks.l).1.getD (36 + (((p.threads.l.getD ((t).toNat) default).l.getD ((((behindF p picks.l).1.getD ((t).toNat * 9) 0)).toNat) default).loc).toNat) 0)) = (behindF p picks.l).1)) && (aRightF p v50.1))) (q := (decide (((behindF p picks.l).1.getD ((t).toNat * 9) 0) < (v50.1.getD ((t).toNat * 9) 0)))) rfl rfl rfl) ?_
     simp only [N]
     refine wq_run rfl (fun w H => rp_move rfl (v := .bool (((decide (((v50.1.take ((t).toNat * 9) ++ (((behindF p picks.l).1.drop ((t).toNat * 9)).take 9) ++ v50.1.drop ((t).toNat * 9 + (((behindF p picks.l).1.drop ((t).toNat * 9)).take 9).length)).set (36 + (((p.threads.l.getD ((t).toNat) default).l.getD ((((behindF p picks.l).1.getD ((t).toNat * 9) 0)).toNat) default).loc).toNat) ((behindF p picks.l).1.getD (36 + (((p.threads.l.getD ((t).toNat) default).l.getD ((((behindF p picks.l).1.getD ((t).toNat * 9) 0)).toNat) default).loc).toNat) 0)) = (behindF p picks.l).1)) && (aRightF p v50.1)) && (decide (((behindF p picks.l).1.getD ((t).toNat * 9) 0) < (v50.1.getD ((t).toNat * 9) 0))))) rfl) ?_
     simp only [N]
     refine wq_g (wn_t rfl rfl) (v := .bool (((((p.threads.l.getD ((t).toNat) default).l.getD ((((behindF p picks.l).1.getD ((t).toNat * 9) 0)).toNat) default).op == (3 : UInt8)) || (((p.threads.l.getD ((t).toNat) default).l.getD ((((behindF p picks.l).1.getD ((t).toNat * 9) 0)).toNat) default).op == (8 : UInt8))) || (((p.threads.l.getD ((t).toNat) default).l.getD ((((behindF p picks.l).1.getD ((t).toNat * 9) 0)).toNat) default).op == (7 : UInt8)))) (fun hg w H => rp_move rfl (v := .bool (((((p.threads.l.getD ((t).toNat) default).l.getD ((((behindF p picks.l).1.getD ((t).toNat * 9) 0)).toNat) default).op == (3 : UInt8)) || (((p.threads.l.getD ((t).toNat) default).l.getD ((((behindF p picks.l).1.getD ((t).toNat * 9) 0)).toNat) default).op == (8 : UInt8))) || (((p.threads.l.getD ((t).toNat) default).l.getD ((((behindF p picks.l).1.getD ((t).toNat * 9) 0)).toNat) default).op == (7 : UInt8)))) rfl) ?_
     simp only [N]
     refine wq_g (wn_t rfl rfl) (v := .bool (!(((((p.threads.l.getD ((t).toNat) default).l.getD ((((behindF p picks.l).1.getD ((t).toNat * 9) 0)).toNat) default).op == (3 : UInt8)) || (((p.threads.l.getD ((t).toNat) default).l.getD ((((behindF p picks.l).1.getD ((t).toNat * 9) 0)).toNat) default).op == (8 : UInt8))) || (((p.threads.l.getD ((t).toNat) default).l.getD ((((behindF p picks.l).1.getD ((t).toNat * 9) 0)).toNat) default).op == (7 : UInt8))))) (fun hg w H => by have x17 : (((behindF p picks.l).1.getD ((t).toNat * 9) 0)).toNat < ((v50.1.getD ((t).toNat * 9) 0)).toNat := u8_lt (andr hg); exact (by simp only [gv_t hg]; exact rp_not rfl (((((p.threads.l.getD ((t).toNat) default).l.getD ((((behindF p picks.l).1.getD ((t).toNat * 9) 0)).toNat) default).op == (3 : UInt8)) || (((p.threads.l.getD ((t).toNat) default).l.getD ((((behindF p picks.l).1.getD ((t).toNat * 9) 0)).toNat) default).op == (8 : UInt8))) || (((p.threads.l.getD ((t).toNat) default).l.getD ((((behindF p picks.l).1.getD ((t).toNat * 9) 0)).toNat) default).op == (7 : UInt8))) rfl)) ?_
     simp only [N]
     refine wq_g (wn_t rfl rfl) (v := .bool (!(((((p.threads.l.getD ((t).toNat) default).l.getD ((((behindF p picks.l).1.getD ((t).toNat * 9) 0)).toNat) default).op == (3 : UInt8)) || (((p.threads.l.getD ((t).toNat) default).l.getD ((((behindF p picks.l).1.getD ((t).toNat * 9) 0)).toNat) default).op == (8 : UInt8))) || (((p.threads.l.getD ((t).toNat) default).l.getD ((((behindF p picks.l).1.getD ((t).toNat * 9) 0)).toNat) default).op == (7 : UInt8))))) (fun hg w H => by have x18 : (((behindF p picks.l).1.getD ((t).toNat * 9) 0)).toNat < ((v50.1.getD ((t).toNat * 9) 0)).toNat := u8_lt (andr hg); exact (by simp only [gv_t hg]; exact rp_move rfl (v := .bool (!(((((p.threads.l.getD ((t).toNat) default).l.getD ((((behindF p picks.l).1.getD ((t).toNat * 9) 0)).toNat) default).op == (3 : UInt8)) || (((p.threads.l.getD ((t).toNat) default).l.getD ((((behindF p picks.l).1.getD ((t).toNat * 9) 0)).toNat) default).op == (8 : UInt8))) || (((p.threads.l.getD ((t).toNat) default).l.getD ((((behindF p picks.l).1.getD ((t).toNat * 9) 0)).toNat) default).op == (7 : UInt8))))) rfl)) ?_
     simp only [N]
     refine wq_g (wn_fg rfl rfl rfl) (v := .pointer (some ⟨b3, 36, none⟩)) (fun hg w H => rp_fieldAddr rfl Tryz.underlying41 rfl 36 rfl sz34 rfl (36) rfl) ?_
     simp only [N]
     refine wq_g (wn_fg rfl rfl rfl) (v := .agg (enc ((v50.1.drop (36)).take 6)).toArray) (fun hg w H => by have x20 : (((behindF p picks.l).1.getD ((t).toNat * 9) 0)).toNat < ((v50.1.getD ((t).toNat * 9) 0)).toNat := u8_lt (andr (andl hg)); exact (by simp only [gv_t hg]; exact rp_loadNe H 2 rfl rfl rfl Tryz.underlying34 rfl sz34 (36) (by omega) (by first | omega | (simp [-List.reduceReplicate]; done) | (simp [-List.reduceReplicate]; omega) | (simp [*, -List.reduceReplicate]; done) | (simp [*, -List.reduceReplicate]; omega)))) ?_
     simp only [N]
     refine wq_g (wn_fg rfl rfl rfl) (v := .pointer (some ⟨b2, 36, none⟩)) (fun hg w H => rp_fieldAddr rfl Tryz.underlying41 rfl 36 rfl sz34 rfl (36) rfl) ?_
     simp only [N]
     refine wq_g (wn_fg rfl rfl rfl) (v := .agg (enc (((behindF p picks.l).1.drop (36)).take 6)).toArray) (fun hg w H => by have x22 : (((behindF p picks.l).1.getD ((t).toNat * 9) 0)).toNat < ((v50.1.getD ((t).toNat * 9) 0)).toNat := u8_lt (andr (andl hg)); exact (by simp only [gv_t hg]; exact rp_loadNe H 3 rfl rfl rfl Tryz.underlying34 rfl sz34 (36) (by omega) (by first | omega | (simp [-List.reduceReplicate]; done) | (simp [-List.reduceReplicate]; omega) | (simp [*, -List.reduceReplicate]; done) | (simp [*, -List.reduceReplicate]; omega)))) ?_
     simp only [N]
     refine wq_g (wn_fg rfl rfl rfl) (v := .bool (decide (((v50.1.drop (36)).take 6) = (((behindF p picks.l).1.drop (36)).take 6)))) (fun hg w H => by have x23 : (((behindF p picks.l).1.getD ((t).toNat * 9) 0)).toNat < ((v50.1.getD ((t).toNat * 9) 0)).toNat := u8_lt (andr (andl hg)); exact (by simp only [gv_t hg]; exact rp_eql_leafs rfl 6 (by decide) (by kernel_rfl) (by kernel_rfl) (ks := (List.replicate 6 (.int .u8))) (by kernel_rfl) (xs := enc ((v50.1.drop (36)).take 6)) (ys := enc (((behindF p picks.l).1.drop (36)).take 6)) rfl rfl (formed_enc Tryz.underlying34 rfl sz34 (by first | omega | (simp [-List.reduceReplicate]; done) | (simp [-List.reduceReplicate]; omega) | (simp [*, -List.reduceReplicate]; done) | (simp [*, -List.reduceReplicate]; omega))) (formed_enc Tryz.underlying34 rfl sz34 (by first | omega | (simp [-List.reduceReplicate]; done) | (simp [-List.reduceReplicate]; omega) | (simp [*, -List.reduceReplicate]; done) | (simp [*, -List.reduceReplicate]; omega))) (fits_enc (by first | omega | (simp [-List.reduceReplicate]; done) | (simp [-List.reduceReplicate]; omega) | (simp [*, -List.reduceReplicate]; done) | (simp [*, -List.reduceReplicate]; omega))) (fits_enc (by first | omega | (simp [-List.reduceReplicate]; done) | (simp [-List.reduceReplicate]; omega) | (simp [*, -List.reduceReplicate]; done) | (simp [*, -List.reduceReplicate]; omega))) (r := (decide (((v50.1.drop (36)).take 6) = (((behindF p picks.l).1.drop (36)).take 6)))) (by exact enc_iff _ _))) ?_
     simp only [N]
     refine wq_g (wn_t rfl rfl) (v := .bool ((!(((((p.threads.l.getD ((t).toNat) default).l.getD ((((behindF p picks.l).1.getD ((t).toNat * 9) 0)).toNat) default).op == (3 : UInt8)) || (((p.threads.l.getD ((t).toNat) default).l.getD ((((behindF p picks.l).1.getD ((t).toNat * 9) 0)).toNat) default).op == (8 : UInt8))) || (((p.threads.l.getD ((t).toNat) default).l.getD ((((behindF p picks.l).1.getD ((t).toNat * 9) 0)).toNat) default).op == (7 : UInt8)))) || (decide (((v50.1.drop (36)).take 6) = (((behindF p picks.l).1.drop (36)).take 6))))) (fun hg w H => rp_pickOg rfl (p := (!(((((p.threads.l.getD ((t).toNat) default).l.getD ((((behindF p picks.l).1.getD ((t).toNat * 9) 0)).toNat) default).op == (3 : UInt8)) || (((p.threads.l.getD ((t).toNat) default).l.getD ((((behindF p picks.l).1.getD ((t).toNat * 9) 0)).toNat) default).op == (8 : UInt8))) || (((p.threads.l.getD ((t).toNat) default).l.getD ((((behindF p picks.l).1.getD ((t).toNat * 9) 0)).toNat) default).op == (7 : UInt8))))) (q := (decide (((v50.1.drop (36)).take 6) = (((behindF p picks.l).1.drop (36)).take 6)))) hg rfl rfl rfl) ?_
     simp only [N]
     refine wq_run rfl (fun w H => rp_pickA rfl (p := (((decide (((v50.1.take ((t).toNat * 9) ++ (((behindF p picks.l).1.drop ((t).toNat * 9)).take 9) ++ v50.1.drop ((t).toNat * 9 + (((behindF p picks.l).1.drop ((t).toNat * 9)).take 9).length)).set (36 + (((p.threads.l.getD ((t).toNat) default).l.getD ((((behindF p picks.l).1.getD ((t).toNat * 9) 0)).toNat) default).loc).toNat) ((behindF p picks.l).1.getD (36 + (((p.threads.l.getD ((t).toNat) default).l.getD ((((behindF p picks.l).1.getD ((t).toNat * 9) 0)).toNat) default).loc).toNat) 0)) = (behindF p picks.l).1)) && (aRightF p v50.1)) && (decide (((behindF p picks.l).1.getD ((t).toNat * 9) 0) < (v50.1.getD ((t).toNat * 9) 0))))) (q := ((!(((((p.threads.l.getD ((t).toNat) default).l.getD ((((behindF p picks.l).1.getD ((t).toNat * 9) 0)).toNat) default).op == (3 : UInt8)) || (((p.threads.l.getD ((t).toNat) default).l.getD ((((behindF p picks.l).1.getD ((t).toNat * 9) 0)).toNat) default).op == (8 : UInt8))) || (((p.threads.l.getD ((t).toNat) default).l.getD ((((behindF p picks.l).1.getD ((t).toNat * 9) 0)).toNat) default).op == (7 : UInt8)))) || (decide (((v50.1.drop (36)).take 6) = (((behindF p picks.l).1.drop (36)).take 6))))) rfl rfl rfl) ?_
     simp only [N]
     refine wq_run rfl (fun w H => rp_move rfl (v := .bool ((((decide (((v50.1.take ((t).toNat * 9) ++ (((behindF p picks.l).1.drop ((t).toNat * 9)).take 9) ++ v50.1.drop ((t).toNat * 9 + (((behindF p picks.l).1.drop ((t).toNat * 9)).take 9).length)).set (36 + (((p.threads.l.getD ((t).toNat) default).l.getD ((((behindF p picks.l).1.getD ((t).toNat * 9) 0)).toNat) default).loc).toNat) ((behindF p picks.l).1.getD (36 + (((p.threads.l.getD ((t).toNat) default).l.getD ((((behindF p picks.l).1.getD ((t).toNat * 9) 0)).toNat) default).loc).toNat) 0)) = (behindF p picks.l).1)) && (aRightF p v50.1)) && (decide (((behindF p picks.l).1.getD ((t).toNat * 9) 0) < (v50.1.getD ((t).toNat * 9) 0)))) && ((!(((((p.threads.l.getD ((t).toNat) default).l.getD ((((behindF p picks.l).1.getD ((t).toNat * 9) 0)).toNat) default).op == (3 : UInt8)) || (((p.threads.l.getD ((t).toNat) default).l.getD ((((behindF p picks.l).1.getD ((t).toNat * 9) 0)).toNat) default).op == (8 : UInt8))) || (((p.threads.l.getD ((t).toNat) default).l.getD ((((behindF p picks.l).1.getD ((t).toNat * 9) 0)).toNat) default).op == (7 : UInt8)))) || (decide (((v50.1.drop (36)).take 6) = (((behindF p picks.l).1.drop (36)).take 6)))))) rfl) ?_
     simp only [N]
     refine wq_g (wn_t rfl rfl) (v := .agg (p.cells).toArray) (fun hg w H => rp_loadN H 4 rfl rfl rfl Tryz.underlying29 rfl sz29 (Nat.le_of_ble_eq_true rfl) (cs' := p.cells) rfl) ?_
     simp only [N]
     refine wq_g (wn_t rfl rfl) (v := .agg (enc (behindF p picks.l).1).toArray) (fun hg w H => rp_loadWe H 3 rfl rfl rfl Tryz.underlying41 rfl (by first | exact sz41 | (rw [sz41]; congr 1; first | omega | (simp [-List.reduceReplicate]; done) | (simp [-List.reduceReplicate]; omega) | (simp [*, -List.reduceReplicate]; done) | (simp [*, -List.reduceReplicate]; omega))) rfl) ?_
     simp only [N]
     refine wq_gE (wn_t rfl rfl) (fun hg => fun w => by simp only [gv_t hg]; exact rc_go Tryz.func29 (by kernel_rfl) rfl w) (v := .bool (overF p ((behindF p picks.l).1))) (fun hg w H => by have x27 : (((behindF p picks.l).1.getD ((t).toNat * 9) 0)).toNat < ((v50.1.getD ((t).toNat * 9) 0)).toNat := u8_lt (andr (andl hg)); exact (overF_spec p ((behindF p picks.l).1) (by first | omega | (simp [-List.reduceReplicate]; done) | (simp [-List.reduceReplicate]; omega) | (simp [*, -List.reduceReplicate]; done) | (simp [*, -List.reduceReplicate]; omega)) _ (H.ro_at 1 rfl) (H.ro_at 3 rfl))) ?_
     simp only [N]
     refine wq_g (wn_t rfl rfl) (v := .bool (!(overF p ((behindF p picks.l).1)))) (fun hg w H => by have x28 : (((behindF p picks.l).1.getD ((t).toNat * 9) 0)).toNat < ((v50.1.getD ((t).toNat * 9) 0)).toNat := u8_lt (andr (andl hg)); exact (by simp only [gv_t hg]; exact rp_not rfl (overF p ((behindF p picks.l).1)) rfl)) ?_
     simp only [N]
     refine wq_run rfl (fun w H => rp_pickA rfl (p := ((((decide (((v50.1.take ((t).toNat * 9) ++ (((behindF p picks.l).1.drop ((t).toNat * 9)).take 9) ++ v50.1.drop ((t).toNat * 9 + (((behindF p picks.l).1.drop ((t).toNat * 9)).take 9).length)).set (36 + (((p.threads.l.getD ((t).toNat) default).l.getD ((((behindF p picks.l).1.getD ((t).toNat * 9) 0)).toNat) default).loc).toNat) ((behindF p picks.l).1.getD (36 + (((p.threads.l.getD ((t).toNat) default).l.getD ((((behindF p picks.l).1.getD ((t).toNat * 9) 0)).toNat) default).loc).toNat) 0)) = (behindF p picks.l).1)) && (aRightF p v50.1)) && (decide (((behindF p picks.l).1.getD ((t).toNat * 9) 0) < (v50.1.getD ((t).toNat * 9) 0)))) && ((!(((((p.threads.l.getD ((t).toNat) default).l.getD ((((behindF p picks.l).1.getD ((t).toNat * 9) 0)).toNat) default).op == (3 : UInt8)) || (((p.threads.l.getD ((t).toNat) default).l.getD ((((behindF p picks.l).1.getD ((t).toNat * 9) 0)).toNat) default).op == (8 : UInt8))) || (((p.threads.l.getD ((t).toNat) default).l.getD ((((behindF p picks.l).1.getD ((t).toNat * 9) 0)).toNat) default).op == (7 : UInt8)))) || (decide (((v50.1.drop (36)).take 6) = (((behindF p picks.l).1.drop (36)).take 6)))))) (q := (!(overF p ((behindF p picks.l).1)))) rfl rfl rfl) ?_
     simp only [N]
     refine wq_run rfl (fun w H => rp_move rfl (v := .bool (((((decide (((v50.1.take ((t).toNat * 9) ++ (((behindF p picks.l).1.drop ((t).toNat * 9)).take 9) ++ v50.1.drop ((t).toNat * 9 + (((behindF p picks.l).1.drop ((t).toNat * 9)).take 9).length)).set (36 + (((p.threads.l.getD ((t).toNat) default).l.getD ((((behindF p picks.l).1.getD ((t).toNat * 9) 0)).toNat) default).loc).toNat) ((behindF p picks.l).1.getD (36 + (((p.threads.l.getD ((t).toNat) default).l.getD ((((behindF p picks.l).1.getD ((t).toNat * 9) 0)).toNat) default).loc).toNat) 0)) = (behindF p picks.l).1)) && (aRightF p v50.1)) && (decide (((behindF p picks.l).1.getD ((t).toNat * 9) 0) < (v50.1.getD ((t).toNat * 9) 0)))) && ((!(((((p.threads.l.getD ((t).toNat) default).l.getD ((((behindF p picks.l).1.getD ((t).toNat * 9) 0)).toNat) default).op == (3 : UInt8)) || (((p.threads.l.getD ((t).toNat) default).l.getD ((((behindF p picks.l).1.getD ((t).toNat * 9) 0)).toNat) default).op == (8 : UInt8))) || (((p.threads.l.getD ((t).toNat) default).l.getD ((((behindF p picks.l).1.getD ((t).toNat * 9) 0)).toNat) default).op == (7 : UInt8)))) || (decide (((v50.1.drop (36)).take 6) = (((behindF p picks.l).1.drop (36)).take 6))))) && (!(overF p ((behindF p picks.l).1))))) rfl) ?_
     simp only [N]
     refine wq_gE (wn_t rfl rfl) (fun hg => rc_go Tryz.func13 (by kernel_rfl) rfl) (v := .bool true) (fun hg w H => by have x29 : (((behindF p picks.l).1.getD ((t).toNat * 9) 0)).toNat < ((v50.1.getD ((t).toNat * 9) 0)).toNat := u8_lt (andr (andl (andl hg))); exact (awake_spec _ (H.ro_at 3 rfl))) ?_
     simp only [N]
     refine wq_run rfl (fun w H => rp_pickA rfl (p := (((((decide (((v50.1.take ((t).toNat * 9) ++ (((behindF p picks.l).1.drop ((t).toNat * 9)).take 9) ++ v50.1.drop ((t).toNat * 9 + (((behindF p picks.l).1.drop ((t).toNat * 9)).take 9).length)).set (36 + (((p.threads.l.getD ((t).toNat) default).l.getD ((((behindF p picks.l).1.getD ((t).toNat * 9) 0)).toNat) default).loc).toNat) ((behindF p picks.l).1.getD (36 + (((p.threads.l.getD ((t).toNat) default).l.getD ((((behindF p picks.l).1.getD ((t).toNat * 9) 0)).toNat) default).loc).toNat) 0)) = (behindF p picks.l).1)) && (aRightF p v50.1)) && (decide (((behindF p picks.l).1.getD ((t).toNat * 9) 0) < (v50.1.getD ((t).toNat * 9) 0)))) && ((!(((((p.threads.l.getD ((t).toNat) default).l.getD ((((behindF p picks.l).1.getD ((t).toNat * 9) 0)).toNat) default).op == (3 : UInt8)) || (((p.threads.l.getD ((t).toNat) default).l.getD ((((behindF p picks.l).1.getD ((t).toNat * 9) 0)).toNat) default).op == (8 : UInt8))) || (((p.threads.l.getD ((t).toNat) default).l.getD ((((behindF p picks.l).1.getD ((t).toNat * 9) 0)).toNat) default).op == (7 : UInt8)))) || (decide (((v50.1.drop (36)).take 6) = (((behindF p picks.l).1.drop (36)).take 6))))) && (!(overF p ((behindF p picks.l).1))))) (q := true) rfl rfl rfl) ?_
     simp only [N]
     refine wq_run rfl (fun w H => rp_assign rfl (v := .bool ((((((decide (((v50.1.take ((t).toNat * 9) ++ (((behindF p picks.l).1.drop ((t).toNat * 9)).take 9) ++ v50.1.drop ((t).toNat * 9 + (((behindF p picks.l).1.drop ((t).toNat * 9)).take 9).length)).set (36 + (((p.threads.l.getD ((t).toNat) default).l.getD ((((behindF p picks.l).1.getD ((t).toNat * 9) 0)).toNat) default).loc).toNat) ((behindF p picks.l).1.getD (36 + (((p.threads.l.getD ((t).toNat) default).l.getD ((((behindF p picks.l).1.getD ((t).toNat * 9) 0)).toNat) default).loc).toNat) 0)) = (behindF p picks.l).1)) && (aRightF p v50.1)) && (decide (((behindF p picks.l).1.getD ((t).toNat * 9) 0) < (v50.1.getD ((t).toNat * 9) 0)))) && ((!(((((p.threads.l.getD ((t).toNat) default).l.getD ((((behindF p picks.l).1.getD ((t).toNat * 9) 0)).toNat) default).op == (3 : UInt8)) || (((p.threads.l.getD ((t).toNat) default).l.getD ((((behindF p picks.l).1.getD ((t).toNat * 9) 0)).toNat) default).op == (8 : UInt8))) || (((p.threads.l.getD ((t).toNat) default).l.getD ((((behindF p picks.l).1.getD ((t).toNat * 9) 0)).toNat) default).op == (7 : UInt8)))) || (decide (((v50.1.drop (36)).take 6) = (((behindF p picks.l).1.drop (36)).take 6))))) && (!(overF p ((behindF p picks.l).1)))) && true)) rfl) ?_
     simp only [N]
     refine wq_nil ?_
     clear H; intro w20 H
     refine wp_ret ?_
     try simp only [Exit.inBlock, Exit.then, cutP]
     refine bodyPost_ret (results1 rfl (rv_tmp rfl)) rfl ?_
     have hF : (stepsF p picks.l t) = ((((((decide (((v50.1.take ((t).toNat * 9) ++ (((behindF p picks.l).1.drop ((t).toNat * 9)).take 9) ++ v50.1.drop ((t).toNat * 9 + (((behindF p picks.l).1.drop ((t).toNat * 9)).take 9).length)).set (36 + (((p.threads.l.getD ((t).toNat) default).l.getD ((((behindF p picks.l).1.getD ((t).toNat * 9) 0)).toNat) default).loc).toNat) ((behindF p picks.l).1.getD (36 + (((p.threads.l.getD ((t).toNat) default).l.getD ((((behindF p picks.l).1.getD ((t).toNat * 9) 0)).toNat) default).loc).toNat) 0)) = (behindF p picks.l).1)) && (aRightF p v50.1)) && (decide (((behindF p picks.l).1.getD ((t).toNat * 9) 0) < (v50.1.getD ((t).toNat * 9) 0)))) && ((!(((((p.threads.l.getD ((t).toNat) default).l.getD ((((behindF p picks.l).1.getD ((t).toNat * 9) 0)).toNat) default).op == (3 : UInt8)) || (((p.threads.l.getD ((t).toNat) default).l.getD ((((behindF p picks.l).1.getD ((t).toNat * 9) 0)).toNat) default).op == (8 : UInt8))) || (((p.threads.l.getD ((t).toNat) default).l.getD ((((behindF p picks.l).1.getD ((t).toNat * 9) 0)).toNat) default).op == (7 : UInt8)))) || (decide (((v50.1.drop (36)).take 6) = (((behindF p picks.l).1.drop (36)).take 6))))) && (!(overF p ((behindF p picks.l).1)))) && true) := (hFv55).trans ((bf hc3).trans (bf hc4))
     rw [hF]
     exact ⟨rfl, H.ext⟩

end Go.Proofs.YtpnaooajmdildaaGreatDoor
