/- Walks, printed by a program of this repository (wip/tool). -/
import Derived.Test.YtpnaooajmdildaaGreatDoorBe
import Derived.Test.YtpnaooajmdildaaGreatDoorSL
namespace Go.Proofs.YtpnaooajmdildaaGreatDoor
open Go.RowKit
open Go
attribute [local irreducible] wpList wpQuiet wpX Code.wp
set_option maxHeartbeats 1000000
set_option maxRecDepth 100000
set_option linter.unusedSimpArgs false
set_option linter.unusedVariables false

def commF_v117 (p : Prog) (picks : List UInt8) (a : UInt8) (b : UInt8) (v96 : (List UInt8) × Int) (v103 : (List UInt8) × Int) (v110 : (List UInt8) × Int) (v117 : (List UInt8) × Int) : Bool :=
  bif ((((v96.2 != (0 : Int)) || (v103.2 != (0 : Int))) || (v110.2 != (0 : Int))) || (v117.2 != (0 : Int))) then false else ((((!((((((p.threads.l.getD ((((movesF p ((behindF p picks).1)).getD (((a).toNat % (movesF p ((behindF p picks).1)).length)) default)).toNat) default).l.getD ((((behindF p picks).1.getD ((((movesF p ((behindF p picks).1)).getD (((a).toNat % (movesF p ((behindF p picks).1)).length)) default)).toNat * 9) 0)).toNat) default).loc != ((p.threads.l.getD ((((movesF p ((behindF p picks).1)).getD (((b).toNat % (movesF p ((behindF p picks).1)).length)) default)).toNat) default).l.getD ((((behindF p picks).1.getD ((((movesF p ((behindF p picks).1)).getD (((b).toNat % (movesF p ((behindF p picks).1)).length)) default)).toNat * 9) 0)).toNat) default).loc) || (stillF ((p.threads.l.getD ((((movesF p ((behindF p picks).1)).getD (((a).toNat % (movesF p ((behindF p picks).1)).length)) default)).toNat) default).l.getD ((((behindF p picks).1.getD ((((movesF p ((behindF p picks).1)).getD (((a).toNat % (movesF p ((behindF p picks).1)).length)) default)).toNat * 9) 0)).toNat) default))) || (stillF ((p.threads.l.getD ((((movesF p ((behindF p picks).1)).getD (((b).toNat % (movesF p ((behindF p picks).1)).length)) default)).toNat) default).l.getD ((((behindF p picks).1.getD ((((movesF p ((behindF p picks).1)).getD (((b).toNat % (movesF p ((behindF p picks).1)).length)) default)).toNat * 9) 0)).toNat) default))) || ((((p.threads.l.getD ((((movesF p ((behindF p picks).1)).getD (((a).toNat % (movesF p ((behindF p picks).1)).length)) default)).toNat) default).l.getD ((((behindF p picks).1.getD ((((movesF p ((behindF p picks).1)).getD (((a).toNat % (movesF p ((behindF p picks).1)).length)) default)).toNat * 9) 0)).toNat) default).op == (1 : UInt8)) && (((p.threads.l.getD ((((movesF p ((behindF p picks).1)).getD (((b).toNat % (movesF p ((behindF p picks).1)).length)) default)).toNat) default).l.getD ((((behindF p picks).1.getD ((((movesF p ((behindF p picks).1)).getD (((b).toNat % (movesF p ((behindF p picks).1)).length)) default)).toNat * 9) 0)).toNat) default).op == (1 : UInt8))))) || (decide (v110.1 = v117.1))) && true))
def commF_v110 (p : Prog) (picks : List UInt8) (a : UInt8) (b : UInt8) (v96 : (List UInt8) × Int) (v103 : (List UInt8) × Int) (v110 : (List UInt8) × Int) : Bool :=
  commF_v117 p picks a b v96 v103 v110 (moveF p v103.1 ((movesF p ((behindF p picks).1)).getD (((a).toNat % (movesF p ((behindF p picks).1)).length)) default))
def commF_v103 (p : Prog) (picks : List UInt8) (a : UInt8) (b : UInt8) (v96 : (List UInt8) × Int) (v103 : (List UInt8) × Int) : Bool :=
  commF_v110 p picks a b v96 v103 (moveF p v96.1 ((movesF p ((behindF p picks).1)).getD (((b).toNat % (movesF p ((behindF p picks).1)).length)) default))
def commF_v96 (p : Prog) (picks : List UInt8) (a : UInt8) (b : UInt8) (v96 : (List UInt8) × Int) : Bool :=
  commF_v103 p picks a b v96 (moveF p ((behindF p picks).1) ((movesF p ((behindF p picks).1)).getD (((b).toNat % (movesF p ((behindF p picks).1)).length)) default))
def commF (p : Prog) (picks : List UInt8) (a : UInt8) (b : UInt8) : Bool :=
  bif ((!(behindF p picks).2) || (decide ((((movesF p ((behindF p picks).1)).length : Nat) : Int) < (2 : Int)))) then ((((behindF p picks).2 || ((rightF p) != (0 : Int))) && true)) else (bif (((movesF p ((behindF p picks).1)).getD (((a).toNat % (movesF p ((behindF p picks).1)).length)) default) == ((movesF p ((behindF p picks).1)).getD (((b).toNat % (movesF p ((behindF p picks).1)).length)) default)) then true else (commF_v96 p picks a b (moveF p ((behindF p picks).1) ((movesF p ((behindF p picks).1)).getD (((a).toNat % (movesF p ((behindF p picks).1)).length)) default))))


theorem commF_spec (p : Prog) (picks : Sl UInt8) (a : UInt8) (b : UInt8) (w : World) (hp : (IsProg p) w) (hpicks : (SlIn 1 eByte picks) w) (hg_ : (Glob) w) :
    Calls Tryz.prog 3 #[.agg p.cells.toArray, picks.val, bv a, bv b] w fun e w' => e = .returned (.bool ((commF p picks.l a b))) ∧ Ext w w' := by
 have H := Own.start_ro w [IsProg p, SlIn 1 eByte picks, Glob] (List.forall_mem_cons.2 ⟨fun w' hw => hp.keep hw, List.forall_mem_cons.2 ⟨fun w' hw => hpicks.keep hw, List.forall_mem_cons.2 ⟨fun w' hw => hg_.keep hw, fun _ h => by cases h⟩⟩⟩)
 have hcp1 := hp.locs.2.2
 have hcp2 := hp.init.2.2
 have hcp3 := hp.threads.2.2
 have hcpicks := hpicks.2.2
 go_enter Tryz.func3, Tryz.ntmps3
 refine wp_seq ?_
 refine wp_region_lit ?_
 refine wl_box H rfl rfl (v := .agg (p.cells).toArray) rfl ?_
 clear H; intro b1 w1 hnb1 H; dsimp only [Value.cells] at H
 simp only [N]
 refine wl_run rfl (rp_assign rfl (v := .bool false) rfl) ?_
 simp only [N]
 refine wpList_nil ?_
 refine wp_seq ?_
 refine wp_region_lit ?_
 refine wl_run rfl (rp_loadN H 0 rfl rfl rfl Tryz.underlying29 rfl sz29 (Nat.le_of_ble_eq_true rfl) (cs' := p.cells) rfl) ?_
 simp only [N]
 refine wl_run rfl (rp_move rfl (v := picks.val) rfl) ?_
 simp only [N]
 refine wl_callE H rfl (rc_go Tryz.func10 (by kernel_rfl) rfl) (behindF_spec p picks _ (H.ro_at 0 rfl) (((H.ro_at 1 rfl))) (H.ro_at 2 rfl)) ?_
 clear H; intro w2 H
 simp only [N]
 refine wl_run rfl (rp_move rfl (v := .tuple #[.agg (enc (behindF p picks.l).1).toArray, .bool (behindF p picks.l).2]) rfl) ?_
 simp only [N]
 refine wl_run rfl (rp_extract rfl rfl (v := .agg (enc (behindF p picks.l).1).toArray) rfl) ?_
 simp only [N]
 refine wl_run rfl (rp_extract rfl rfl (v := .bool (behindF p picks.l).2) rfl) ?_
 simp only [N]
 refine wl_alloc H rfl rfl zv41 ?_
 clear H; intro b2 w3 hnb2 H; dsimp only [Value.cells] at H
 simp only [N]
 simp only [enc_replicate] at H
 refine wl_storeW H 0 rfl rfl rfl rfl (vs := (enc (behindF p picks.l).1).toArray) rfl (fun v hv => enc_one v (by simpa using hv)) (by first | (rw [sz41]; congr 1; done) | (rw [sz41]; congr 1; first | omega | (simp [-List.reduceReplicate]; done) | (simp [-List.reduceReplicate]; omega) | (simp [*, -List.reduceReplicate]; done) | (simp [*, -List.reduceReplicate]; omega))) (by first | omega | (simp [-List.reduceReplicate]; done) | (simp [-List.reduceReplicate]; omega) | (simp [*, -List.reduceReplicate]; done) | (simp [*, -List.reduceReplicate]; omega)) ?_
 clear H; intro w4 H; simp only [M] at H
 simp only [N]
 refine wl_run rfl (rp_assign rfl (v := .bool (behindF p picks.l).2) rfl) ?_
 simp only [N]
 refine wpList_nil ?_
 refine wp_seq ?_
 refine wp_region_lit ?_
 refine wl_run rfl (rp_loadN H 1 rfl rfl rfl Tryz.underlying29 rfl sz29 (Nat.le_of_ble_eq_true rfl) (cs' := p.cells) rfl) ?_
 simp only [N]
 refine wl_run rfl (rp_loadWe H 0 rfl rfl rfl Tryz.underlying41 rfl (by first | exact sz41 | (rw [sz41]; congr 1; first | omega | (simp [-List.reduceReplicate]; done) | (simp [-List.reduceReplicate]; omega) | (simp [*, -List.reduceReplicate]; done) | (simp [*, -List.reduceReplicate]; omega))) rfl) ?_
 simp only [N]
 refine wl_callFA H rfl (rc_go Tryz.func11 (by kernel_rfl) rfl) (movesF_spec p ((behindF p picks.l).1) (by first | omega | (simp [-List.reduceReplicate]; done) | (simp [-List.reduceReplicate]; omega) | (simp [*, -List.reduceReplicate]; done) | (simp [*, -List.reduceReplicate]; omega)) _ (H.ro_at 0 rfl) (H.ro_at 2 rfl)) ?_
 clear H; intro x1_ w5 H
 simp only [N]
 have hcx1_0 : (movesF p ((behindF p picks.l).1)).length ≤ 140737488355328 := ((FreshAt.now (H.ro_at 0 rfl))).2.2.1
 refine wl_run rfl (rp_assign rfl (v := (⟨x1_.1, x1_.2, (movesF p ((behindF p picks.l).1))⟩ : Sl Int).val) rfl) ?_
 simp only [N]
 refine wpList_nil ?_
 refine wp_seq ?_
 refine wp_seq ?_
 refine wp_region_lit ?_
 refine wl_run rfl (rp_move rfl (v := .bool (behindF p picks.l).2) rfl) ?_
 simp only [N]
 refine wl_run rfl (rp_not rfl (behindF p picks.l).2 rfl) ?_
 simp only [N]
 refine wl_run rfl (rp_move rfl (v := .bool (!(behindF p picks.l).2)) rfl) ?_
 simp only [N]
 refine wl_g (wn_f rfl rfl) (v := (⟨x1_.1, x1_.2, (movesF p ((behindF p picks.l).1))⟩ : Sl Int).val) (fun hg => rp_move rfl (v := (⟨x1_.1, x1_.2, (movesF p ((behindF p picks.l).1))⟩ : Sl Int).val) rfl) ?_
 simp only [N]
 refine wl_g (wn_f rfl rfl) (v := iv (((movesF p ((behindF p picks.l).1)).length : Nat) : Int)) (fun hg => by simp only [gv_t hg]; exact rp_len_sl (s := (⟨x1_.1, x1_.2, (movesF p ((behindF p picks.l).1))⟩ : Sl Int)) Tryz.underlying44 rfl) ?_
 simp only [N]
 refine wl_g (wn_f rfl rfl) (v := .bool (decide ((((movesF p ((behindF p picks.l).1)).length : Nat) : Int) < (2 : Int)))) (fun hg => by simp only [gv_t hg]; exact rp_int_lss rfl (((movesF p ((behindF p picks.l).1)).length : Nat) : Int) (2 : Int) rfl rfl) ?_
 simp only [N]
 refine wl_run rfl (rp_pickO rfl (p := (!(behindF p picks.l).2)) (q := (decide ((((movesF p ((behindF p picks.l).1)).length : Nat) : Int) < (2 : Int)))) rfl rfl rfl) ?_
 simp only [N]
 refine wpList_nil ?_
 refine wp_cond_split rfl (fun hc1 => ?_) (fun hc1 => ?_)
 · --T 1
  refine wp_seq ?_
  refine wp_region_lit ?_
  refine wl_run rfl (rp_move rfl (v := .bool (behindF p picks.l).2) rfl) ?_
  simp only [N]
  refine wl_run rfl (rp_move rfl (v := .bool (behindF p picks.l).2) rfl) ?_
  simp only [N]
  refine wl_g (wn_f rfl rfl) (v := .agg (p.cells).toArray) (fun hg => rp_loadN H 1 rfl rfl rfl Tryz.underlying29 rfl sz29 (Nat.le_of_ble_eq_true rfl) (cs' := p.cells) rfl) ?_
  simp only [N]
  refine wl_gE H (wn_f rfl rfl) (fun hg => fun w => by simp only [gv_t hg]; exact rc_go Tryz.func12 (by kernel_rfl) rfl w) (v := iv (rightF p)) (fun hg => rightF_spec p _ (H.ro_at 1 rfl) (H.ro_at 3 rfl)) ?_
  clear H; intro w6 H
  simp only [N]
  refine wl_g (wn_f rfl rfl) (v := .bool ((rightF p) != (0 : Int))) (fun hg => by simp only [gv_t hg]; exact rp_int_neq rfl (rightF p) (0 : Int) rfl rfl) ?_
  simp only [N]
  refine wl_run rfl (rp_pickO rfl (p := (behindF p picks.l).2) (q := ((rightF p) != (0 : Int))) rfl rfl rfl) ?_
  simp only [N]
  refine wl_run rfl (rp_move rfl (v := .bool ((behindF p picks.l).2 || ((rightF p) != (0 : Int)))) rfl) ?_
  simp only [N]
  refine wl_gE H (wn_t rfl rfl) (fun hg => rc_go Tryz.func13 (by kernel_rfl) rfl) (v := .bool true) (fun hg => awake_spec _ (H.ro_at 3 rfl)) ?_
  clear H; intro w7 H
  simp only [N]
  refine wl_run rfl (rp_pickA rfl (p := ((behindF p picks.l).2 || ((rightF p) != (0 : Int)))) (q := true) rfl rfl rfl) ?_
  simp only [N]
  refine wl_run rfl (rp_assign rfl (v := .bool (((behindF p picks.l).2 || ((rightF p) != (0 : Int))) && true)) rfl) ?_
  simp only [N]
  refine wpList_nil ?_
  refine wp_ret ?_
  try simp only [Exit.inBlock, Exit.then, cutP]
  refine bodyPost_ret (results1 rfl (rv_tmp rfl)) rfl ?_
  have hF : (commF p picks.l a b) = (((behindF p picks.l).2 || ((rightF p) != (0 : Int))) && true) := bt hc1
  rw [hF]
  exact ⟨rfl, H.ext⟩
 · --F 1
  have hc1N1 : (2 : Int) ≤ (((movesF p ((behindF p picks.l).1)).length : Nat) : Int) := (by simpa using (orr hc1))
  refine wp_skip ?_
  refine wp_seq ?_
  refine wp_region_lit ?_
  refine wl_run rfl (rp_move rfl (v := (⟨x1_.1, x1_.2, (movesF p ((behindF p picks.l).1))⟩ : Sl Int).val) rfl) ?_
  simp only [N]
  refine wl_run rfl (rp_move rfl (v := bv a) rfl) ?_
  simp only [N]
  refine wl_run rfl (rp_u8_to_int rfl Tryz.underlying5 Tryz.underlying3 a rfl) ?_
  simp only [N]
  refine wl_run rfl (rp_move rfl (v := (⟨x1_.1, x1_.2, (movesF p ((behindF p picks.l).1))⟩ : Sl Int).val) rfl) ?_
  simp only [N]
  refine wl_run rfl (rp_len_sl (s := (⟨x1_.1, x1_.2, (movesF p ((behindF p picks.l).1))⟩ : Sl Int)) Tryz.underlying44 rfl) ?_
  simp only [N]
  have hrem53 : ((a).toNat % (movesF p ((behindF p picks.l).1)).length) < (movesF p ((behindF p picks.l).1)).length := Nat.mod_lt _ (by omega)
  refine wl_run rfl (rp_int_rem rfl ((a).toNat) ((movesF p ((behindF p picks.l).1)).length) rfl rfl (by omega)) ?_
  simp only [N]
  refine wl_run rfl (rp_indexAddr_sl ((FreshAt.now ((H.ro_at 0 rfl)))) rfl Tryz.underlying44 sz3 rfl ((a).toNat % (movesF p ((behindF p picks.l).1)).length) rfl (by show _ < (movesF p ((behindF p picks.l).1)).length; omega)) ?_
  simp only [N]
  refine wl_run rfl (rp_load1_sl ((FreshAt.now ((H.ro_at 0 rfl)))) (((a).toNat % (movesF p ((behindF p picks.l).1)).length)) (by show _ < (movesF p ((behindF p picks.l).1)).length; omega) rfl Tryz.underlying3 rfl 0 rfl (by omega) (v := iv ((movesF p ((behindF p picks.l).1)).getD (((a).toNat % (movesF p ((behindF p picks.l).1)).length)) default)) rfl) ?_
  simp only [N]
  refine wl_run rfl (rp_assign rfl (v := iv ((movesF p ((behindF p picks.l).1)).getD (((a).toNat % (movesF p ((behindF p picks.l).1)).length)) default)) rfl) ?_
  simp only [N]
  refine wpList_nil ?_
  refine wp_seq ?_
  refine wp_region_lit ?_
  refine wl_run rfl (rp_move rfl (v := (⟨x1_.1, x1_.2, (movesF p ((behindF p picks.l).1))⟩ : Sl Int).val) rfl) ?_
  simp only [N]
  refine wl_run rfl (rp_move rfl (v := bv b) rfl) ?_
  simp only [N]
  refine wl_run rfl (rp_u8_to_int rfl Tryz.underlying5 Tryz.underlying3 b rfl) ?_
  simp only [N]
  refine wl_run rfl (rp_move rfl (v := (⟨x1_.1, x1_.2, (movesF p ((behindF p picks.l).1))⟩ : Sl Int).val) rfl) ?_
  simp only [N]
  refine wl_run rfl (rp_len_sl (s := (⟨x1_.1, x1_.2, (movesF p ((behindF p picks.l).1))⟩ : Sl Int)) Tryz.underlying44 rfl) ?_
  simp only [N]
  have hrem61 : ((b).toNat % (movesF p ((behindF p picks.l).1)).length) < (movesF p ((behindF p picks.l).1)).length := Nat.mod_lt _ (by omega)
  refine wl_run rfl (rp_int_rem rfl ((b).toNat) ((movesF p ((behindF p picks.l).1)).length) rfl rfl (by omega)) ?_
  simp only [N]
  refine wl_run rfl (rp_indexAddr_sl ((FreshAt.now ((H.ro_at 0 rfl)))) rfl Tryz.underlying44 sz3 rfl ((b).toNat % (movesF p ((behindF p picks.l).1)).length) rfl (by show _ < (movesF p ((behindF p picks.l).1)).length; omega)) ?_
  simp only [N]
  refine wl_run rfl (rp_load1_sl ((FreshAt.now ((H.ro_at 0 rfl)))) (((b).toNat % (movesF p ((behindF p picks.l).1)).length)) (by show _ < (movesF p ((behindF p picks.l).1)).length; omega) rfl Tryz.underlying3 rfl 0 rfl (by omega) (v := iv ((movesF p ((behindF p picks.l).1)).getD (((b).toNat % (movesF p ((behindF p picks.l).1)).length)) default)) rfl) ?_
  simp only [N]
  refine wl_run rfl (rp_assign rfl (v := iv ((movesF p ((behindF p picks.l).1)).getD (((b).toNat % (movesF p ((behindF p picks.l).1)).length)) default)) rfl) ?_
  simp only [N]
  refine wpList_nil ?_
  refine wp_seq ?_
  refine wp_seq ?_
  refine wp_region_lit ?_
  refine wl_run rfl (rp_move rfl (v := iv ((movesF p ((behindF p picks.l).1)).getD (((a).toNat % (movesF p ((behindF p picks.l).1)).length)) default)) rfl) ?_
  simp only [N]
  refine wl_run rfl (rp_move rfl (v := iv ((movesF p ((behindF p picks.l).1)).getD (((b).toNat % (movesF p ((behindF p picks.l).1)).length)) default)) rfl) ?_
  simp only [N]
  refine wl_run rfl (rp_int_eql rfl ((movesF p ((behindF p picks.l).1)).getD (((a).toNat % (movesF p ((behindF p picks.l).1)).length)) default) ((movesF p ((behindF p picks.l).1)).getD (((b).toNat % (movesF p ((behindF p picks.l).1)).length)) default) rfl rfl) ?_
  simp only [N]
  refine wpList_nil ?_
  refine wp_cond_split rfl (fun hc2 => ?_) (fun hc2 => ?_)
  · --T 2
   have hc2N2 : ((movesF p ((behindF p picks.l).1)).getD (((a).toNat % (movesF p ((behindF p picks.l).1)).length)) default) = ((movesF p ((behindF p picks.l).1)).getD (((b).toNat % (movesF p ((behindF p picks.l).1)).length)) default) := (by simpa using hc2)
   refine wp_seq ?_
   refine wp_region_lit ?_
   refine wl_callE H rfl (rc_go Tryz.func13 (by kernel_rfl) rfl) (awake_spec _ (H.ro_at 3 rfl)) ?_
   clear H; intro w8 H
   simp only [N]
   refine wl_run rfl (rp_assign rfl (v := .bool true) rfl) ?_
   simp only [N]
   refine wpList_nil ?_
   refine wp_ret ?_
   try simp only [Exit.inBlock, Exit.then, cutP]
   refine bodyPost_ret (results1 rfl (rv_tmp rfl)) rfl ?_
   have hF : (commF p picks.l a b) = true := (bf hc1).trans (bt hc2)
   rw [hF]
   exact ⟨rfl, H.ext⟩
  · --F 2
   have hc2N3 : ((movesF p ((behindF p picks.l).1)).getD (((a).toNat % (movesF p ((behindF p picks.l).1)).length)) default) ≠ ((movesF p ((behindF p picks.l).1)).getD (((b).toNat % (movesF p ((behindF p picks.l).1)).length)) default) := (by simpa using hc2)
   have hbl := behindF_len0 p picks.l
   have hA := moves_at hbl (n := a.toNat % (movesF p (behindF p picks.l).1).length) (Nat.mod_lt _ (by omega))
   have hB := moves_at hbl (n := b.toNat % (movesF p (behindF p picks.l).1).length) (Nat.mod_lt _ (by omega))
   obtain ⟨hm3, hm4, hm5, hm6, hm7⟩ := may_facts hA.1 hA.2
   obtain ⟨hn3, hn4, hn5, hn6, hn7⟩ := may_facts hB.1 hB.2
   refine wp_skip ?_
   refine wp_seq ?_
   refine wp_cutI (fun a' w' => ∃ n1 n2 : Nat, a' = ⟨#[.agg (p.cells).toArray, picks.val, bv a, bv b, .pointer (some ⟨b1, 0, none⟩), undef, undef, undef, .bool false, .pointer (some ⟨b2, 0, none⟩), .bool (behindF p picks.l).2, (⟨x1_.1, x1_.2, (movesF p ((behindF p picks.l).1))⟩ : Sl Int).val, iv ((movesF p ((behindF p picks.l).1)).getD (((a).toNat % (movesF p ((behindF p picks.l).1)).length)) default), iv ((movesF p ((behindF p picks.l).1)).getD (((b).toNat % (movesF p ((behindF p picks.l).1)).length)) default), .pointer (some ⟨n1, 0, none⟩), .pointer (some ⟨n2, 0, none⟩), undef, undef, undef, undef, undef, undef, undef, .tuple #[.agg (enc (behindF p picks.l).1).toArray, .bool (behindF p picks.l).2], .agg (p.cells).toArray, picks.val, .tuple #[.agg (enc (behindF p picks.l).1).toArray, .bool (behindF p picks.l).2], .agg (enc (behindF p picks.l).1).toArray, .bool (behindF p picks.l).2, .agg (p.cells).toArray, .agg (enc (behindF p picks.l).1).toArray, (⟨x1_.1, x1_.2, (movesF p ((behindF p picks.l).1))⟩ : Sl Int).val, .bool (behindF p picks.l).2, .bool (!(behindF p picks.l).2), .bool (!(behindF p picks.l).2), (gv (!(!(behindF p picks.l).2)) ((⟨x1_.1, x1_.2, (movesF p ((behindF p picks.l).1))⟩ : Sl Int).val)), (gv (!(!(behindF p picks.l).2)) (iv (((movesF p ((behindF p picks.l).1)).length : Nat) : Int))), (gv (!(!(behindF p picks.l).2)) (.bool (decide ((((movesF p ((behindF p picks.l).1)).length : Nat) : Int) < (2 : Int))))), .bool ((!(behindF p picks.l).2) || (decide ((((movesF p ((behindF p picks.l).1)).length : Nat) : Int) < (2 : Int)))), undef, undef, undef, undef, undef, undef, undef, undef, undef, (⟨x1_.1, x1_.2, (movesF p ((behindF p picks.l).1))⟩ : Sl Int).val, bv a, iv ((a).toNat : Int), (⟨x1_.1, x1_.2, (movesF p ((behindF p picks.l).1))⟩ : Sl Int).val, iv (((movesF p ((behindF p picks.l).1)).length : Nat) : Int), iv ((((a).toNat % (movesF p ((behindF p picks.l).1)).length) : Nat) : Int), .pointer (some ⟨(⟨x1_.1, x1_.2, (movesF p ((behindF p picks.l).1))⟩ : Sl Int).blk, (⟨x1_.1, x1_.2, (movesF p ((behindF p picks.l).1))⟩ : Sl Int).off + ((a).toNat % (movesF p ((behindF p picks.l).1)).length) * 1, none⟩), iv ((movesF p ((behindF p picks.l).1)).getD (((a).toNat % (movesF p ((behindF p picks.l).1)).length)) default), (⟨x1_.1, x1_.2, (movesF p ((behindF p picks.l).1))⟩ : Sl Int).val, bv b, iv ((b).toNat : Int), (⟨x1_.1, x1_.2, (movesF p ((behindF p picks.l).1))⟩ : Sl Int).val, iv (((movesF p ((behindF p picks.l).1)).length : Nat) : Int), iv ((((b).toNat % (movesF p ((behindF p picks.l).1)).length) : Nat) : Int), .pointer (some ⟨(⟨x1_.1, x1_.2, (movesF p ((behindF p picks.l).1))⟩ : Sl Int).blk, (⟨x1_.1, x1_.2, (movesF p ((behindF p picks.l).1))⟩ : Sl Int).off + ((b).toNat % (movesF p ((behindF p picks.l).1)).length) * 1, none⟩), iv ((movesF p ((behindF p picks.l).1)).getD (((b).toNat % (movesF p ((behindF p picks.l).1)).length)) default), iv ((movesF p ((behindF p picks.l).1)).getD (((a).toNat % (movesF p ((behindF p picks.l).1)).length)) default), iv ((movesF p ((behindF p picks.l).1)).getD (((b).toNat % (movesF p ((behindF p picks.l).1)).length)) default), .bool (((movesF p ((behindF p picks.l).1)).getD (((a).toNat % (movesF p ((behindF p picks.l).1)).length)) default) == ((movesF p ((behindF p picks.l).1)).getD (((b).toNat % (movesF p ((behindF p picks.l).1)).length)) default)), undef, .pointer (some ⟨b1, 3, none⟩), p.threads.val, iv ((movesF p ((behindF p picks.l).1)).getD (((a).toNat % (movesF p ((behindF p picks.l).1)).length)) default), .pointer (some ⟨p.threads.blk, p.threads.off + (((movesF p ((behindF p picks.l).1)).getD (((a).toNat % (movesF p ((behindF p picks.l).1)).length)) default)).toNat * 1, none⟩), (p.threads.l.getD ((((movesF p ((behindF p picks.l).1)).getD (((a).toNat % (movesF p ((behindF p picks.l).1)).length)) default)).toNat) default).val, iv ((movesF p ((behindF p picks.l).1)).getD (((a).toNat % (movesF p ((behindF p picks.l).1)).length)) default), .pointer (some ⟨b2, 0, none⟩), .pointer (some ⟨b2, (((movesF p ((behindF p picks.l).1)).getD (((a).toNat % (movesF p ((behindF p picks.l).1)).length)) default)).toNat * 9, none⟩), .pointer (some ⟨b2, (((movesF p ((behindF p picks.l).1)).getD (((a).toNat % (movesF p ((behindF p picks.l).1)).length)) default)).toNat * 9, none⟩), bv ((behindF p picks.l).1.getD ((((movesF p ((behindF p picks.l).1)).getD (((a).toNat % (movesF p ((behindF p picks.l).1)).length)) default)).toNat * 9) 0), .pointer (some ⟨(p.threads.l.getD ((((movesF p ((behindF p picks.l).1)).getD (((a).toNat % (movesF p ((behindF p picks.l).1)).length)) default)).toNat) default).blk, (p.threads.l.getD ((((movesF p ((behindF p picks.l).1)).getD (((a).toNat % (movesF p ((behindF p picks.l).1)).length)) default)).toNat) default).off + (((behindF p picks.l).1.getD ((((movesF p ((behindF p picks.l).1)).getD (((a).toNat % (movesF p ((behindF p picks.l).1)).length)) default)).toNat * 9) 0)).toNat * 10, none⟩), .agg (((p.threads.l.getD ((((movesF p ((behindF p picks.l).1)).getD (((a).toNat % (movesF p ((behindF p picks.l).1)).length)) default)).toNat) default).l.getD ((((behindF p picks.l).1.getD ((((movesF p ((behindF p picks.l).1)).getD (((a).toNat % (movesF p ((behindF p picks.l).1)).length)) default)).toNat * 9) 0)).toNat) default).cells).toArray, .pointer (some ⟨b1, 3, none⟩), p.threads.val, iv ((movesF p ((behindF p picks.l).1)).getD (((b).toNat % (movesF p ((behindF p picks.l).1)).length)) default), .pointer (some ⟨p.threads.blk, p.threads.off + (((movesF p ((behindF p picks.l).1)).getD (((b).toNat % (movesF p ((behindF p picks.l).1)).length)) default)).toNat * 1, none⟩), (p.threads.l.getD ((((movesF p ((behindF p picks.l).1)).getD (((b).toNat % (movesF p ((behindF p picks.l).1)).length)) default)).toNat) default).val, iv ((movesF p ((behindF p picks.l).1)).getD (((b).toNat % (movesF p ((behindF p picks.l).1)).length)) default), .pointer (some ⟨b2, 0, none⟩), .pointer (some ⟨b2, (((movesF p ((behindF p picks.l).1)).getD (((b).toNat % (movesF p ((behindF p picks.l).1)).length)) default)).toNat * 9, none⟩), .pointer (some ⟨b2, (((movesF p ((behindF p picks.l).1)).getD (((b).toNat % (movesF p ((behindF p picks.l).1)).length)) default)).toNat * 9, none⟩), bv ((behindF p picks.l).1.getD ((((movesF p ((behindF p picks.l).1)).getD (((b).toNat % (movesF p ((behindF p picks.l).1)).length)) default)).toNat * 9) 0), .pointer (some ⟨(p.threads.l.getD ((((movesF p ((behindF p picks.l).1)).getD (((b).toNat % (movesF p ((behindF p picks.l).1)).length)) default)).toNat) default).blk, (p.threads.l.getD ((((movesF p ((behindF p picks.l).1)).getD (((b).toNat % (movesF p ((behindF p picks.l).1)).length)) default)).toNat) default).off + (((behindF p picks.l).1.getD ((((movesF p ((behindF p picks.l).1)).getD (((b).toNat % (movesF p ((behindF p picks.l).1)).length)) default)).toNat * 9) 0)).toNat * 10, none⟩), .agg (((p.threads.l.getD ((((movesF p ((behindF p picks.l).1)).getD (((b).toNat % (movesF p ((behindF p picks.l).1)).length)) default)).toNat) default).l.getD ((((behindF p picks.l).1.getD ((((movesF p ((behindF p picks.l).1)).getD (((b).toNat % (movesF p ((behindF p picks.l).1)).length)) default)).toNat * 9) 0)).toNat) default).cells).toArray, undef, undef, undef, undef, undef, undef, undef, undef, undef, undef, undef, undef, undef, undef, undef, undef, undef, undef, undef, undef, undef, undef, undef, undef, undef, undef, undef, undef, undef, undef, undef, undef, undef, undef, undef, undef, undef, undef, undef, undef, undef, undef, undef, undef, undef, undef, undef, undef, undef, undef, undef, undef, undef, undef, undef, undef, undef, undef, undef, undef, undef, undef, undef, undef, undef, undef, undef, undef, undef, undef, undef, undef, undef, undef, undef], []⟩ ∧ Own w [] [FreshAt w (SlIn 1 eInt (⟨x1_.1, x1_.2, (movesF p ((behindF p picks.l).1))⟩ : Sl Int)), IsProg p, SlIn 1 eByte picks, Glob] [.blk n1 (.cells (((p.threads.l.getD ((((movesF p ((behindF p picks.l).1)).getD (((a).toNat % (movesF p ((behindF p picks.l).1)).length)) default)).toNat) default).l.getD ((((behindF p picks.l).1.getD ((((movesF p ((behindF p picks.l).1)).getD (((a).toNat % (movesF p ((behindF p picks.l).1)).length)) default)).toNat * 9) 0)).toNat) default).cells).toArray 52 (0, 0)), .blk n2 (.cells (((p.threads.l.getD ((((movesF p ((behindF p picks.l).1)).getD (((b).toNat % (movesF p ((behindF p picks.l).1)).length)) default)).toNat) default).l.getD ((((behindF p picks.l).1.getD ((((movesF p ((behindF p picks.l).1)).getD (((b).toNat % (movesF p ((behindF p picks.l).1)).length)) default)).toNat * 9) 0)).toNat) default).cells).toArray 52 (0, 0)), .blk b2 (.cells (enc (behindF p picks.l).1).toArray 41 (0, 0)), .blk b1 (.cells (p.cells).toArray 29 (0, 0))] w') ?_ ?_
   ·
    refine wp_region_mix 28 H (by kernel_rfl) ?_
    refine wxl_take 0 rfl rfl (by kernel_rfl) (by kernel_rfl) (by kernel_rfl) (by kernel_rfl) (by kernel_rfl) (xy_run rfl (fun w H => rp_fieldAddr rfl Tryz.underlying29 rfl 3 rfl sz24 rfl (3) rfl)) ?_
    simp only [N]
    refine wxl_take 1 rfl rfl (by kernel_rfl) (by kernel_rfl) (by kernel_rfl) (by kernel_rfl) (by kernel_rfl) (xy_run rfl (fun w H => rp_load1 H 1 rfl rfl rfl Tryz.underlying24 rfl (v := p.threads.val) rfl)) ?_
    simp only [N]
    refine wxl_take 2 rfl rfl (by kernel_rfl) (by kernel_rfl) (by kernel_rfl) (by kernel_rfl) (by kernel_rfl) (xy_run rfl (fun w H => rp_move rfl (v := iv ((movesF p ((behindF p picks.l).1)).getD (((a).toNat % (movesF p ((behindF p picks.l).1)).length)) default)) rfl)) ?_
    simp only [N]
    refine wxl_take 3 rfl rfl (by kernel_rfl) (by kernel_rfl) (by kernel_rfl) (by kernel_rfl) (by kernel_rfl) (xy_run rfl (fun w H => rp_indexAddr_slI (IsProg.threads ((H.ro_at 1 rfl))) rfl Tryz.underlying24 sz53 rfl ((movesF p ((behindF p picks.l).1)).getD (((a).toNat % (movesF p ((behindF p picks.l).1)).length)) default) (by omega) rfl (by omega))) ?_
    simp only [N]
    refine wxl_take 4 rfl rfl (by kernel_rfl) (by kernel_rfl) (by kernel_rfl) (by kernel_rfl) (by kernel_rfl) (xy_run rfl (fun w H => rp_load1_sl (IsProg.threads ((H.ro_at 1 rfl))) ((((movesF p ((behindF p picks.l).1)).getD (((a).toNat % (movesF p ((behindF p picks.l).1)).length)) default)).toNat) (by omega) rfl Tryz.underlying53 rfl 0 rfl (by omega) (v := (p.threads.l.getD ((((movesF p ((behindF p picks.l).1)).getD (((a).toNat % (movesF p ((behindF p picks.l).1)).length)) default)).toNat) default).val) rfl)) ?_
    simp only [N]
    refine wxl_take 5 rfl rfl (by kernel_rfl) (by kernel_rfl) (by kernel_rfl) (by kernel_rfl) (by kernel_rfl) (xy_run rfl (fun w H => rp_move rfl (v := iv ((movesF p ((behindF p picks.l).1)).getD (((a).toNat % (movesF p ((behindF p picks.l).1)).length)) default)) rfl)) ?_
    simp only [N]
    refine wxl_take 6 rfl rfl (by kernel_rfl) (by kernel_rfl) (by kernel_rfl) (by kernel_rfl) (by kernel_rfl) (xy_run rfl (fun w H => rp_fieldAddr rfl Tryz.underlying41 rfl 0 rfl sz33 rfl (0) rfl)) ?_
    simp only [N]
    refine wxl_take 7 rfl rfl (by kernel_rfl) (by kernel_rfl) (by kernel_rfl) (by kernel_rfl) (by kernel_rfl) (xy_run rfl (fun w H => rp_indexAddr_arrI rfl Tryz.underlying33 sz32 rfl ((movesF p ((behindF p picks.l).1)).getD (((a).toNat % (movesF p ((behindF p picks.l).1)).length)) default) (by omega) rfl (by omega) ((((movesF p ((behindF p picks.l).1)).getD (((a).toNat % (movesF p ((behindF p picks.l).1)).length)) default)).toNat * 9) (by omega))) ?_
    simp only [N]
    refine wxl_take 8 rfl rfl (by kernel_rfl) (by kernel_rfl) (by kernel_rfl) (by kernel_rfl) (by kernel_rfl) (xy_run rfl (fun w H => rp_fieldAddr rfl Tryz.underlying32 rfl 0 rfl sz5 rfl ((((movesF p ((behindF p picks.l).1)).getD (((a).toNat % (movesF p ((behindF p picks.l).1)).length)) default)).toNat * 9) (by omega))) ?_
    simp only [N]
    refine wxl_take 9 rfl rfl (by kernel_rfl) (by kernel_rfl) (by kernel_rfl) (by kernel_rfl) (by kernel_rfl) (xy_run rfl (fun w H => rp_load1e H 0 rfl rfl rfl Tryz.underlying5 rfl ((((movesF p ((behindF p picks.l).1)).getD (((a).toNat % (movesF p ((behindF p picks.l).1)).length)) default)).toNat * 9) rfl (by first | omega | (simp [-List.reduceReplicate]; done) | (simp [-List.reduceReplicate]; omega) | (simp [*, -List.reduceReplicate]; done) | (simp [*, -List.reduceReplicate]; omega)))) ?_
    simp only [N]
    refine wxl_take 10 rfl rfl (by kernel_rfl) (by kernel_rfl) (by kernel_rfl) (by kernel_rfl) (by kernel_rfl) (xy_run rfl (fun w H => rp_indexAddr_sl ((IsProg.ins_at (H.ro_at 1 rfl) (t := (((movesF p ((behindF p picks.l).1)).getD (((a).toNat % (movesF p ((behindF p picks.l).1)).length)) default)).toNat) (by omega))) rfl Tryz.underlying53 sz52 rfl (((behindF p picks.l).1.getD ((((movesF p ((behindF p picks.l).1)).getD (((a).toNat % (movesF p ((behindF p picks.l).1)).length)) default)).toNat * 9) 0)).toNat rfl (by omega))) ?_
    simp only [N]
    refine wxl_take 11 rfl rfl (by kernel_rfl) (by kernel_rfl) (by kernel_rfl) (by kernel_rfl) (by kernel_rfl) (xy_run rfl (fun w H => rp_loadN_sl ((IsProg.ins_at (H.ro_at 1 rfl) (t := (((movesF p ((behindF p picks.l).1)).getD (((a).toNat % (movesF p ((behindF p picks.l).1)).length)) default)).toNat) (by omega))) ((((behindF p picks.l).1.getD ((((movesF p ((behindF p picks.l).1)).getD (((a).toNat % (movesF p ((behindF p picks.l).1)).length)) default)).toNat * 9) 0)).toNat) (by omega) rfl Tryz.underlying52 rfl rfl sz52)) ?_
    simp only [N]
    refine wxl_take 12 rfl rfl (by kernel_rfl) (by kernel_rfl) (by kernel_rfl) (by kernel_rfl) (by kernel_rfl) (xy_run rfl (fun w H => rp_fieldAddr rfl Tryz.underlying29 rfl 3 rfl sz24 rfl (3) rfl)) ?_
    simp only [N]
    refine wxl_take 13 rfl rfl (by kernel_rfl) (by kernel_rfl) (by kernel_rfl) (by kernel_rfl) (by kernel_rfl) (xy_run rfl (fun w H => rp_load1 H 1 rfl rfl rfl Tryz.underlying24 rfl (v := p.threads.val) rfl)) ?_
    simp only [N]
    refine wxl_take 14 rfl rfl (by kernel_rfl) (by kernel_rfl) (by kernel_rfl) (by kernel_rfl) (by kernel_rfl) (xy_run rfl (fun w H => rp_move rfl (v := iv ((movesF p ((behindF p picks.l).1)).getD (((b).toNat % (movesF p ((behindF p picks.l).1)).length)) default)) rfl)) ?_
    simp only [N]
    refine wxl_take 15 rfl rfl (by kernel_rfl) (by kernel_rfl) (by kernel_rfl) (by kernel_rfl) (by kernel_rfl) (xy_run rfl (fun w H => rp_indexAddr_slI (IsProg.threads ((H.ro_at 1 rfl))) rfl Tryz.underlying24 sz53 rfl ((movesF p ((behindF p picks.l).1)).getD (((b).toNat % (movesF p ((behindF p picks.l).1)).length)) default) (by omega) rfl (by omega))) ?_
    simp only [N]
    refine wxl_take 16 rfl rfl (by kernel_rfl) (by kernel_rfl) (by kernel_rfl) (by kernel_rfl) (by kernel_rfl) (xy_run rfl (fun w H => rp_load1_sl (IsProg.threads ((H.ro_at 1 rfl))) ((((movesF p ((behindF p picks.l).1)).getD (((b).toNat % (movesF p ((behindF p picks.l).1)).length)) default)).toNat) (by omega) rfl Tryz.underlying53 rfl 0 rfl (by omega) (v := (p.threads.l.getD ((((movesF p ((behindF p picks.l).1)).getD (((b).toNat % (movesF p ((behindF p picks.l).1)).length)) default)).toNat) default).val) rfl)) ?_
    simp only [N]
    refine wxl_take 17 rfl rfl (by kernel_rfl) (by kernel_rfl) (by kernel_rfl) (by kernel_rfl) (by kernel_rfl) (xy_run rfl (fun w H => rp_move rfl (v := iv ((movesF p ((behindF p picks.l).1)).getD (((b).toNat % (movesF p ((behindF p picks.l).1)).length)) default)) rfl)) ?_
    simp only [N]
    refine wxl_take 18 rfl rfl (by kernel_rfl) (by kernel_rfl) (by kernel_rfl) (by kernel_rfl) (by kernel_rfl) (xy_run rfl (fun w H => rp_fieldAddr rfl Tryz.underlying41 rfl 0 rfl sz33 rfl (0) rfl)) ?_
    simp only [N]
    refine wxl_take 19 rfl rfl (by kernel_rfl) (by kernel_rfl) (by kernel_rfl) (by kernel_rfl) (by kernel_rfl) (xy_run rfl (fun w H => rp_indexAddr_arrI rfl Tryz.underlying33 sz32 rfl ((movesF p ((behindF p picks.l).1)).getD (((b).toNat % (movesF p ((behindF p picks.l).1)).length)) default) (by omega) rfl (by omega) ((((movesF p ((behindF p picks.l).1)).getD (((b).toNat % (movesF p ((behindF p picks.l).1)).length)) default)).toNat * 9) (by omega))) ?_
    simp only [N]
    refine wxl_take 20 rfl rfl (by kernel_rfl) (by kernel_rfl) (by kernel_rfl) (by kernel_rfl) (by kernel_rfl) (xy_run rfl (fun w H => rp_fieldAddr rfl Tryz.underlying32 rfl 0 rfl sz5 rfl ((((movesF p ((behindF p picks.l).1)).getD (((b).toNat % (movesF p ((behindF p picks.l).1)).length)) default)).toNat * 9) (by omega))) ?_
    simp only [N]
    refine wxl_take 21 rfl rfl (by kernel_rfl) (by kernel_rfl) (by kernel_rfl) (by kernel_rfl) (by kernel_rfl) (xy_run rfl (fun w H => rp_load1e H 0 rfl rfl rfl Tryz.underlying5 rfl ((((movesF p ((behindF p picks.l).1)).getD (((b).toNat % (movesF p ((behindF p picks.l).1)).length)) default)).toNat * 9) rfl (by first | omega | (simp [-List.reduceReplicate]; done) | (simp [-List.reduceReplicate]; omega) | (simp [*, -List.reduceReplicate]; done) | (simp [*, -List.reduceReplicate]; omega)))) ?_
    simp only [N]
    refine wxl_take 22 rfl rfl (by kernel_rfl) (by kernel_rfl) (by kernel_rfl) (by kernel_rfl) (by kernel_rfl) (xy_run rfl (fun w H => rp_indexAddr_sl ((IsProg.ins_at (H.ro_at 1 rfl) (t := (((movesF p ((behindF p picks.l).1)).getD (((b).toNat % (movesF p ((behindF p picks.l).1)).length)) default)).toNat) (by omega))) rfl Tryz.underlying53 sz52 rfl (((behindF p picks.l).1.getD ((((movesF p ((behindF p picks.l).1)).getD (((b).toNat % (movesF p ((behindF p picks.l).1)).length)) default)).toNat * 9) 0)).toNat rfl (by omega))) ?_
    simp only [N]
    refine wxl_take 23 rfl rfl (by kernel_rfl) (by kernel_rfl) (by kernel_rfl) (by kernel_rfl) (by kernel_rfl) (xy_run rfl (fun w H => rp_loadN_sl ((IsProg.ins_at (H.ro_at 1 rfl) (t := (((movesF p ((behindF p picks.l).1)).getD (((b).toNat % (movesF p ((behindF p picks.l).1)).length)) default)).toNat) (by omega))) ((((behindF p picks.l).1.getD ((((movesF p ((behindF p picks.l).1)).getD (((b).toNat % (movesF p ((behindF p picks.l).1)).length)) default)).toNat * 9) 0)).toNat) (by omega) rfl Tryz.underlying52 rfl rfl sz52)) ?_
    simp only [N]
    refine wxl_two 24 25 rfl rfl rfl rfl (by kernel_rfl) rfl rfl (xa_alloc rfl zv52) (xa_alloc rfl zv52) ?_ ?_
    ·
     intro bd14
     simp only [N, M, Value.cells]
     refine wxl_alloc 25 rfl rfl (by kernel_rfl) rfl (xa_alloc rfl zv52) ?_
     intro bd15
     simp only [N, M, Value.cells]
     refine wxl_store 26 1 rfl rfl (by kernel_rfl) rfl rfl (xs_whole rfl rfl (vs := (((p.threads.l.getD ((((movesF p ((behindF p picks.l).1)).getD (((a).toNat % (movesF p ((behindF p picks.l).1)).length)) default)).toNat) default).l.getD ((((behindF p picks.l).1.getD ((((movesF p ((behindF p picks.l).1)).getD (((a).toNat % (movesF p ((behindF p picks.l).1)).length)) default)).toNat * 9) 0)).toNat) default).cells).toArray) rfl (Ins.cells_one _) (by first | exact sz52 | (rw [sz52]; congr 1; first | omega | (simp [-List.reduceReplicate]; done) | (simp [-List.reduceReplicate]; omega) | (simp [*, -List.reduceReplicate]; done) | (simp [*, -List.reduceReplicate]; omega))) (by first | rfl | first | omega | (simp [-List.reduceReplicate]; done) | (simp [-List.reduceReplicate]; omega) | (simp [*, -List.reduceReplicate]; done) | (simp [*, -List.reduceReplicate]; omega))) ?_
     simp only [N, M, Value.cells]
     refine wxl_store 27 0 rfl rfl (by kernel_rfl) rfl rfl (xs_whole rfl rfl (vs := (((p.threads.l.getD ((((movesF p ((behindF p picks.l).1)).getD (((b).toNat % (movesF p ((behindF p picks.l).1)).length)) default)).toNat) default).l.getD ((((behindF p picks.l).1.getD ((((movesF p ((behindF p picks.l).1)).getD (((b).toNat % (movesF p ((behindF p picks.l).1)).length)) default)).toNat * 9) 0)).toNat) default).cells).toArray) rfl (Ins.cells_one _) (by first | exact sz52 | (rw [sz52]; congr 1; first | omega | (simp [-List.reduceReplicate]; done) | (simp [-List.reduceReplicate]; omega) | (simp [*, -List.reduceReplicate]; done) | (simp [*, -List.reduceReplicate]; omega))) (by first | rfl | first | omega | (simp [-List.reduceReplicate]; done) | (simp [-List.reduceReplicate]; omega) | (simp [*, -List.reduceReplicate]; done) | (simp [*, -List.reduceReplicate]; omega))) ?_
     simp only [N, M, Value.cells]
     refine wpX_done (by kernel_rfl) ?_ _
     clear H; intro w9 H; simp only [List.cons_append, List.nil_append] at H
     exact ⟨rfl, bd14, bd15, rfl, H.swap⟩
    ·
     intro bd15
     simp only [N, M, Value.cells]
     refine wxl_alloc 24 rfl rfl (by kernel_rfl) rfl (xa_alloc rfl zv52) ?_
     intro bd14
     simp only [N, M, Value.cells]
     refine wxl_store 26 0 rfl rfl (by kernel_rfl) rfl rfl (xs_whole rfl rfl (vs := (((p.threads.l.getD ((((movesF p ((behindF p picks.l).1)).getD (((a).toNat % (movesF p ((behindF p picks.l).1)).length)) default)).toNat) default).l.getD ((((behindF p picks.l).1.getD ((((movesF p ((behindF p picks.l).1)).getD (((a).toNat % (movesF p ((behindF p picks.l).1)).length)) default)).toNat * 9) 0)).toNat) default).cells).toArray) rfl (Ins.cells_one _) (by first | exact sz52 | (rw [sz52]; congr 1; first | omega | (simp [-List.reduceReplicate]; done) | (simp [-List.reduceReplicate]; omega) | (simp [*, -List.reduceReplicate]; done) | (simp [*, -List.reduceReplicate]; omega))) (by first | rfl | first | omega | (simp [-List.reduceReplicate]; done) | (simp [-List.reduceReplicate]; omega) | (simp [*, -List.reduceReplicate]; done) | (simp [*, -List.reduceReplicate]; omega))) ?_
     simp only [N, M, Value.cells]
     refine wxl_store 27 1 rfl rfl (by kernel_rfl) rfl rfl (xs_whole rfl rfl (vs := (((p.threads.l.getD ((((movesF p ((behindF p picks.l).1)).getD (((b).toNat % (movesF p ((behindF p picks.l).1)).length)) default)).toNat) default).l.getD ((((behindF p picks.l).1.getD ((((movesF p ((behindF p picks.l).1)).getD (((b).toNat % (movesF p ((behindF p picks.l).1)).length)) default)).toNat * 9) 0)).toNat) default).cells).toArray) rfl (Ins.cells_one _) (by first | exact sz52 | (rw [sz52]; congr 1; first | omega | (simp [-List.reduceReplicate]; done) | (simp [-List.reduceReplicate]; omega) | (simp [*, -List.reduceReplicate]; done) | (simp [*, -List.reduceReplicate]; omega))) (by first | rfl | first | omega | (simp [-List.reduceReplicate]; done) | (simp [-List.reduceReplicate]; omega) | (simp [*, -List.reduceReplicate]; done) | (simp [*, -List.reduceReplicate]; omega))) ?_
     simp only [N, M, Value.cells]
     refine wpX_done (by kernel_rfl) ?_ _
     clear H; intro w10 H; simp only [List.cons_append, List.nil_append] at H
     exact ⟨rfl, bd14, bd15, rfl, H⟩
   clear H
   rintro _ w11 ⟨b3, b4, rfl, H⟩
   refine wp_seq ?_
   refine wp_region_lit ?_
   refine wl_run rfl (rp_loadN H 3 rfl rfl rfl Tryz.underlying29 rfl sz29 (Nat.le_of_ble_eq_true rfl) (cs' := p.cells) rfl) ?_
   simp only [N]
   refine wl_run rfl (rp_loadWe H 2 rfl rfl rfl Tryz.underlying41 rfl (by first | exact sz41 | (rw [sz41]; congr 1; first | omega | (simp [-List.reduceReplicate]; done) | (simp [-List.reduceReplicate]; omega) | (simp [*, -List.reduceReplicate]; done) | (simp [*, -List.reduceReplicate]; omega))) rfl) ?_
   simp only [N]
   refine wl_run rfl (rp_move rfl (v := iv ((movesF p ((behindF p picks.l).1)).getD (((a).toNat % (movesF p ((behindF p picks.l).1)).length)) default)) rfl) ?_
   simp only [N]
   refine wl_callE H rfl (rc_go Tryz.func14 (by kernel_rfl) rfl) (moveF_spec p ((behindF p picks.l).1) ((movesF p ((behindF p picks.l).1)).getD (((a).toNat % (movesF p ((behindF p picks.l).1)).length)) default) (by first | omega | (simp [-List.reduceReplicate]; done) | (simp [-List.reduceReplicate]; omega) | (simp [*, -List.reduceReplicate]; done) | (simp [*, -List.reduceReplicate]; omega)) _ (H.ro_at 1 rfl) (H.ro_at 3 rfl)) ?_
   clear H; intro w12 H
   simp only [N]
   generalize hv96 : (moveF p ((behindF p picks.l).1) ((movesF p ((behindF p picks.l).1)).getD (((a).toNat % (movesF p ((behindF p picks.l).1)).length)) default)) = v96
   have hFv96 : (commF p picks.l a b) = commF_v96 p picks.l a b v96 := by first | (rw [← hv96]; exact (bf hc1).trans (bf hc2)) | exact (bf hc1).trans (bf hc2)
   have hlv96 : (v96.1).length = 142 := by rw [← hv96]; first | omega | (simp [-List.reduceReplicate]; done) | (simp [-List.reduceReplicate]; omega) | (simp [*, -List.reduceReplicate]; done) | (simp [*, -List.reduceReplicate]; omega)
   refine wl_run rfl (rp_move rfl (v := .tuple #[.agg (enc v96.1).toArray, iv v96.2]) rfl) ?_
   simp only [N]
   refine wl_run rfl (rp_extract rfl rfl (v := .agg (enc v96.1).toArray) rfl) ?_
   simp only [N]
   refine wl_run rfl (rp_extract rfl rfl (v := iv v96.2) rfl) ?_
   simp only [N]
   refine wl_alloc H rfl rfl zv41 ?_
   clear H; intro b5 w13 hnb5 H; dsimp only [Value.cells] at H
   simp only [N]
   simp only [enc_replicate] at H
   refine wl_storeW H 0 rfl rfl rfl rfl (vs := (enc v96.1).toArray) rfl (fun v hv => enc_one v (by simpa using hv)) (by first | (rw [sz41]; congr 1; done) | (rw [sz41]; congr 1; first | omega | (simp [-List.reduceReplicate]; done) | (simp [-List.reduceReplicate]; omega) | (simp [*, -List.reduceReplicate]; done) | (simp [*, -List.reduceReplicate]; omega))) (by first | omega | (simp [-List.reduceReplicate]; done) | (simp [-List.reduceReplicate]; omega) | (simp [*, -List.reduceReplicate]; done) | (simp [*, -List.reduceReplicate]; omega)) ?_
   clear H; intro w14 H; simp only [M] at H
   simp only [N]
   refine wl_run rfl (rp_assign rfl (v := iv v96.2) rfl) ?_
   simp only [N]
   refine wpList_nil ?_
   refine wp_seq ?_
   refine wp_region_lit ?_
   refine wl_run rfl (rp_loadN H 4 rfl rfl rfl Tryz.underlying29 rfl sz29 (Nat.le_of_ble_eq_true rfl) (cs' := p.cells) rfl) ?_
   simp only [N]
   refine wl_run rfl (rp_loadWe H 3 rfl rfl rfl Tryz.underlying41 rfl (by first | exact sz41 | (rw [sz41]; congr 1; first | omega | (simp [-List.reduceReplicate]; done) | (simp [-List.reduceReplicate]; omega) | (simp [*, -List.reduceReplicate]; done) | (simp [*, -List.reduceReplicate]; omega))) rfl) ?_
   simp only [N]
   refine wl_run rfl (rp_move rfl (v := iv ((movesF p ((behindF p picks.l).1)).getD (((b).toNat % (movesF p ((behindF p picks.l).1)).length)) default)) rfl) ?_
   simp only [N]
   refine wl_callE H rfl (rc_go Tryz.func14 (by kernel_rfl) rfl) (moveF_spec p ((behindF p picks.l).1) ((movesF p ((behindF p picks.l).1)).getD (((b).toNat % (movesF p ((behindF p picks.l).1)).length)) default) (by first | omega | (simp [-List.reduceReplicate]; done) | (simp [-List.reduceReplicate]; omega) | (simp [*, -List.reduceReplicate]; done) | (simp [*, -List.reduceReplicate]; omega)) _ (H.ro_at 1 rfl) (H.ro_at 3 rfl)) ?_
   clear H; intro w15 H
   simp only [N]
   generalize hv103 : (moveF p ((behindF p picks.l).1) ((movesF p ((behindF p picks.l).1)).getD (((b).toNat % (movesF p ((behindF p picks.l).1)).length)) default)) = v103
   have hFv103 : (commF p picks.l a b) = commF_v103 p picks.l a b v96 v103 := by first | (rw [← hv103]; exact hFv96) | exact hFv96
   have hlv103 : (v103.1).length = 142 := by rw [← hv103]; first | omega | (simp [-List.reduceReplicate]; done) | (simp [-List.reduceReplicate]; omega) | (simp [*, -List.reduceReplicate]; done) | (simp [*, -List.reduceReplicate]; omega)
   refine wl_run rfl (rp_move rfl (v := .tuple #[.agg (enc v103.1).toArray, iv v103.2]) rfl) ?_
   simp only [N]
   refine wl_run rfl (rp_extract rfl rfl (v := .agg (enc v103.1).toArray) rfl) ?_
   simp only [N]
   refine wl_run rfl (rp_extract rfl rfl (v := iv v103.2) rfl) ?_
   simp only [N]
   refine wl_alloc H rfl rfl zv41 ?_
   clear H; intro b6 w16 hnb6 H; dsimp only [Value.cells] at H
   simp only [N]
   simp only [enc_replicate] at H
   refine wl_storeW H 0 rfl rfl rfl rfl (vs := (enc v103.1).toArray) rfl (fun v hv => enc_one v (by simpa using hv)) (by first | (rw [sz41]; congr 1; done) | (rw [sz41]; congr 1; first | omega | (simp [-List.reduceReplicate]; done) | (simp [-List.reduceReplicate]; omega) | (simp [*, -List.reduceReplicate]; done) | (simp [*, -List.reduceReplicate]; omega))) (by first | omega | (simp [-List.reduceReplicate]; done) | (simp [-List.reduceReplicate]; omega) | (simp [*, -List.reduceReplicate]; done) | (simp [*, -List.reduceReplicate]; omega)) ?_
   clear H; intro w17 H; simp only [M] at H
   simp only [N]
   refine wl_run rfl (rp_assign rfl (v := iv v103.2) rfl) ?_
   simp only [N]
   refine wpList_nil ?_
   refine wp_seq ?_
   refine wp_region_lit ?_
   refine wl_run rfl (rp_loadN H 5 rfl rfl rfl Tryz.underlying29 rfl sz29 (Nat.le_of_ble_eq_true rfl) (cs' := p.cells) rfl) ?_
   simp only [N]
   refine wl_run rfl (rp_loadWe H 1 rfl rfl rfl Tryz.underlying41 rfl (by first | exact sz41 | (rw [sz41]; congr 1; first | omega | (simp [-List.reduceReplicate]; done) | (simp [-List.reduceReplicate]; omega) | (simp [*, -List.reduceReplicate]; done) | (simp [*, -List.reduceReplicate]; omega))) rfl) ?_
   simp only [N]
   refine wl_run rfl (rp_move rfl (v := iv ((movesF p ((behindF p picks.l).1)).getD (((b).toNat % (movesF p ((behindF p picks.l).1)).length)) default)) rfl) ?_
   simp only [N]
   refine wl_callE H rfl (rc_go Tryz.func14 (by kernel_rfl) rfl) (moveF_spec p v96.1 ((movesF p ((behindF p picks.l).1)).getD (((b).toNat % (movesF p ((behindF p picks.l).1)).length)) default) (by first | omega | (simp [-List.reduceReplicate]; done) | (simp [-List.reduceReplicate]; omega) | (simp [*, -List.reduceReplicate]; done) | (simp [*, -List.reduceReplicate]; omega)) _ (H.ro_at 1 rfl) (H.ro_at 3 rfl)) ?_
   clear H; intro w18 H
   simp only [N]
   generalize hv110 : (moveF p v96.1 ((movesF p ((behindF p picks.l).1)).getD (((b).toNat % (movesF p ((behindF p picks.l).1)).length)) default)) = v110
   have hFv110 : (commF p picks.l a b) = commF_v110 p picks.l a b v96 v103 v110 := by first | (rw [← hv110]; exact hFv103) | exact hFv103
   have hlv110 : (v110.1).length = 142 := by rw [← hv110]; first | omega | (simp [-List.reduceReplicate]; done) | (simp [-List.reduceReplicate]; omega) | (simp [*, -List.reduceReplicate]; done) | (simp [*, -List.reduceReplicate]; omega)
   refine wl_run rfl (rp_move rfl (v := .tuple #[.agg (enc v110.1).toArray, iv v110.2]) rfl) ?_
   simp only [N]
   refine wl_run rfl (rp_extract rfl rfl (v := .agg (enc v110.1).toArray) rfl) ?_
   simp only [N]
   refine wl_run rfl (rp_extract rfl rfl (v := iv v110.2) rfl) ?_
   simp only [N]
   refine wl_storeW H 1 rfl rfl rfl rfl (vs := (enc v110.1).toArray) rfl (fun v hv => enc_one v (by simpa using hv)) (by first | (rw [sz41]; congr 1; done) | (rw [sz41]; congr 1; first | omega | (simp [-List.reduceReplicate]; done) | (simp [-List.reduceReplicate]; omega) | (simp [*, -List.reduceReplicate]; done) | (simp [*, -List.reduceReplicate]; omega))) (by first | omega | (simp [-List.reduceReplicate]; done) | (simp [-List.reduceReplicate]; omega) | (simp [*, -List.reduceReplicate]; done) | (simp [*, -List.reduceReplicate]; omega)) ?_
   clear H; intro w19 H; simp only [M] at H
   simp only [N]
   refine wl_run rfl (rp_assign rfl (v := iv v110.2) rfl) ?_
   simp only [N]
   refine wpList_nil ?_
   refine wp_seq ?_
   refine wp_region_lit ?_
   refine wl_run rfl (rp_loadN H 5 rfl rfl rfl Tryz.underlying29 rfl sz29 (Nat.le_of_ble_eq_true rfl) (cs' := p.cells) rfl) ?_
   simp only [N]
   refine wl_run rfl (rp_loadWe H 0 rfl rfl rfl Tryz.underlying41 rfl (by first | exact sz41 | (rw [sz41]; congr 1; first | omega | (simp [-List.reduceReplicate]; done) | (simp [-List.reduceReplicate]; omega) | (simp [*, -List.reduceReplicate]; done) | (simp [*, -List.reduceReplicate]; omega))) rfl) ?_
   simp only [N]
   refine wl_run rfl (rp_move rfl (v := iv ((movesF p ((behindF p picks.l).1)).getD (((a).toNat % (movesF p ((behindF p picks.l).1)).length)) default)) rfl) ?_
   simp only [N]
   refine wl_callE H rfl (rc_go Tryz.func14 (by kernel_rfl) rfl) (moveF_spec p v103.1 ((movesF p ((behindF p picks.l).1)).getD (((a).toNat % (movesF p ((behindF p picks.l).1)).length)) default) (by first | omega | (simp [-List.reduceReplicate]; done) | (simp [-List.reduceReplicate]; omega) | (simp [*, -List.reduceReplicate]; done) | (simp [*, -List.reduceReplicate]; omega)) _ (H.ro_at 1 rfl) (H.ro_at 3 rfl)) ?_
   clear H; intro w20 H
   simp only [N]
   generalize hv117 : (moveF p v103.1 ((movesF p ((behindF p picks.l).1)).getD (((a).toNat % (movesF p ((behindF p picks.l).1)).length)) default)) = v117
   have hFv117 : (commF p picks.l a b) = commF_v117 p picks.l a b v96 v103 v110 v117 := by first | (rw [← hv117]; exact hFv110) | exact hFv110
   have hlv117 : (v117.1).length = 142 := by rw [← hv117]; first | omega | (simp [-List.reduceReplicate]; done) | (simp [-List.reduceReplicate]; omega) | (simp [*, -List.reduceReplicate]; done) | (simp [*, -List.reduceReplicate]; omega)
   refine wl_run rfl (rp_move rfl (v := .tuple #[.agg (enc v117.1).toArray, iv v117.2]) rfl) ?_
   simp only [N]
   refine wl_run rfl (rp_extract rfl rfl (v := .agg (enc v117.1).toArray) rfl) ?_
   simp only [N]
   refine wl_run rfl (rp_extract rfl rfl (v := iv v117.2) rfl) ?_
   simp only [N]
   refine wl_storeW H 0 rfl rfl rfl rfl (vs := (enc v117.1).toArray) rfl (fun v hv => enc_one v (by simpa using hv)) (by first | (rw [sz41]; congr 1; done) | (rw [sz41]; congr 1; first | omega | (simp [-List.reduceReplicate]; done) | (simp [-List.reduceReplicate]; omega) | (simp [*, -List.reduceReplicate]; done) | (simp [*, -List.reduceReplicate]; omega))) (by first | omega | (simp [-List.reduceReplicate]; done) | (simp [-List.reduceReplicate]; omega) | (simp [*, -List.reduceReplicate]; done) | (simp [*, -List.reduceReplicate]; omega)) ?_
   clear H; intro w21 H; simp only [M] at H
   simp only [N]
   refine wl_run rfl (rp_assign rfl (v := iv v117.2) rfl) ?_
   simp only [N]
   refine wpList_nil ?_
   refine wp_seq ?_
   refine wp_seq ?_
   refine wp_region_lit ?_
   refine wl_run rfl (rp_move rfl (v := iv v96.2) rfl) ?_
   simp only [N]
   refine wl_run rfl (rp_int_neq rfl v96.2 (0 : Int) rfl rfl) ?_
   simp only [N]
   refine wl_run rfl (rp_move rfl (v := .bool (v96.2 != (0 : Int))) rfl) ?_
   simp only [N]
   refine wl_g (wn_f rfl rfl) (v := iv v103.2) (fun hg => rp_move rfl (v := iv v103.2) rfl) ?_
   simp only [N]
   refine wl_g (wn_f rfl rfl) (v := .bool (v103.2 != (0 : Int))) (fun hg => by have x5 : v96.2 = (0 : Int) := (by simpa using (notT hg)); exact (by simp only [gv_t hg]; exact rp_int_neq rfl v103.2 (0 : Int) rfl rfl)) ?_
   simp only [N]
   refine wl_run rfl (rp_pickO rfl (p := (v96.2 != (0 : Int))) (q := (v103.2 != (0 : Int))) rfl rfl rfl) ?_
   simp only [N]
   refine wl_run rfl (rp_move rfl (v := .bool ((v96.2 != (0 : Int)) || (v103.2 != (0 : Int)))) rfl) ?_
   simp only [N]
   refine wl_g (wn_f rfl rfl) (v := iv v110.2) (fun hg => rp_move rfl (v := iv v110.2) rfl) ?_
   simp only [N]
   refine wl_g (wn_f rfl rfl) (v := .bool (v110.2 != (0 : Int))) (fun hg => by have x8 : v96.2 = (0 : Int) := (by simpa using (orl (notT hg))); have x9 : v103.2 = (0 : Int) := (by simpa using (orr (notT hg))); exact (by simp only [gv_t hg]; exact rp_int_neq rfl v110.2 (0 : Int) rfl rfl)) ?_
   simp only [N]
   refine wl_run rfl (rp_pickO rfl (p := ((v96.2 != (0 : Int)) || (v103.2 != (0 : Int)))) (q := (v110.2 != (0 : Int))) rfl rfl rfl) ?_
   simp only [N]
   refine wl_run rfl (rp_move rfl (v := .bool (((v96.2 != (0 : Int)) || (v103.2 != (0 : Int))) || (v110.2 != (0 : Int)))) rfl) ?_
   simp only [N]
   refine wl_g (wn_f rfl rfl) (v := iv v117.2) (fun hg => rp_move rfl (v := iv v117.2) rfl) ?_
   simp only [N]
   refine wl_g (wn_f rfl rfl) (v := .bool (v117.2 != (0 : Int))) (fun hg => by have x13 : v96.2 = (0 : Int) := (by simpa using (orl (orl (notT hg)))); have x14 : v103.2 = (0 : Int) := (by simpa using (orr (orl (notT hg)))); have x15 : v110.2 = (0 : Int) := (by simpa using (orr (notT hg))); exact (by simp only [gv_t hg]; exact rp_int_neq rfl v117.2 (0 : Int) rfl rfl)) ?_
   simp only [N]
   refine wl_run rfl (rp_pickO rfl (p := (((v96.2 != (0 : Int)) || (v103.2 != (0 : Int))) || (v110.2 != (0 : Int)))) (q := (v117.2 != (0 : Int))) rfl rfl rfl) ?_
   simp only [N]
   refine wpList_nil ?_
   refine wp_cond_split rfl (fun hc3 => ?_) (fun hc3 => ?_)
   · --T 3
    refine wp_seq ?_
    refine wp_region_lit ?_
    refine wl_run rfl (rp_assign rfl (v := .bool false) rfl) ?_
    simp only [N]
    refine wpList_nil ?_
    refine wp_ret ?_
    try simp only [Exit.inBlock, Exit.then, cutP]
    refine bodyPost_ret (results1 rfl (rv_tmp rfl)) rfl ?_
    have hF : (commF p picks.l a b) = false := (hFv117).trans (bt hc3)
    rw [hF]
    exact ⟨rfl, H.ext⟩
   · --F 3
    have hc3N16 : v96.2 = (0 : Int) := (by simpa using (orl (orl (orl hc3))))
    have hc3N17 : v103.2 = (0 : Int) := (by simpa using (orr (orl (orl hc3))))
    have hc3N18 : v110.2 = (0 : Int) := (by simpa using (orr (orl hc3)))
    have hc3N19 : v117.2 = (0 : Int) := (by simpa using (orr hc3))
    refine wp_skip ?_
    refine wp_seq ?_
    refine wp_region_lit ?_
    refine wl_run rfl (rp_fieldAddr rfl Tryz.underlying52 rfl 2 rfl sz5 rfl (2) rfl) ?_
    simp only [N]
    refine wl_run rfl (rp_load1 H 2 rfl rfl rfl Tryz.underlying5 rfl (v := bv ((p.threads.l.getD ((((movesF p ((behindF p picks.l).1)).getD (((a).toNat % (movesF p ((behindF p picks.l).1)).length)) default)).toNat) default).l.getD ((((behindF p picks.l).1.getD ((((movesF p ((behindF p picks.l).1)).getD (((a).toNat % (movesF p ((behindF p picks.l).1)).length)) default)).toNat * 9) 0)).toNat) default).loc) rfl) ?_
    simp only [N]
    refine wl_run rfl (rp_fieldAddr rfl Tryz.underlying52 rfl 2 rfl sz5 rfl (2) rfl) ?_
    simp only [N]
    refine wl_run rfl (rp_load1 H 3 rfl rfl rfl Tryz.underlying5 rfl (v := bv ((p.threads.l.getD ((((movesF p ((behindF p picks.l).1)).getD (((b).toNat % (movesF p ((behindF p picks.l).1)).length)) default)).toNat) default).l.getD ((((behindF p picks.l).1.getD ((((movesF p ((behindF p picks.l).1)).getD (((b).toNat % (movesF p ((behindF p picks.l).1)).length)) default)).toNat * 9) 0)).toNat) default).loc) rfl) ?_
    simp only [N]
    refine wl_run rfl (rp_u8_neq rfl ((p.threads.l.getD ((((movesF p ((behindF p picks.l).1)).getD (((a).toNat % (movesF p ((behindF p picks.l).1)).length)) default)).toNat) default).l.getD ((((behindF p picks.l).1.getD ((((movesF p ((behindF p picks.l).1)).getD (((a).toNat % (movesF p ((behindF p picks.l).1)).length)) default)).toNat * 9) 0)).toNat) default).loc ((p.threads.l.getD ((((movesF p ((behindF p picks.l).1)).getD (((b).toNat % (movesF p ((behindF p picks.l).1)).length)) default)).toNat) default).l.getD ((((behindF p picks.l).1.getD ((((movesF p ((behindF p picks.l).1)).getD (((b).toNat % (movesF p ((behindF p picks.l).1)).length)) default)).toNat * 9) 0)).toNat) default).loc rfl rfl) ?_
    simp only [N]
    refine wl_run rfl (rp_move rfl (v := .bool (((p.threads.l.getD ((((movesF p ((behindF p picks.l).1)).getD (((a).toNat % (movesF p ((behindF p picks.l).1)).length)) default)).toNat) default).l.getD ((((behindF p picks.l).1.getD ((((movesF p ((behindF p picks.l).1)).getD (((a).toNat % (movesF p ((behindF p picks.l).1)).length)) default)).toNat * 9) 0)).toNat) default).loc != ((p.threads.l.getD ((((movesF p ((behindF p picks.l).1)).getD (((b).toNat % (movesF p ((behindF p picks.l).1)).length)) default)).toNat) default).l.getD ((((behindF p picks.l).1.getD ((((movesF p ((behindF p picks.l).1)).getD (((b).toNat % (movesF p ((behindF p picks.l).1)).length)) default)).toNat * 9) 0)).toNat) default).loc)) rfl) ?_
    simp only [N]
    refine wl_g (wn_f rfl rfl) (v := .agg (((p.threads.l.getD ((((movesF p ((behindF p picks.l).1)).getD (((a).toNat % (movesF p ((behindF p picks.l).1)).length)) default)).toNat) default).l.getD ((((behindF p picks.l).1.getD ((((movesF p ((behindF p picks.l).1)).getD (((a).toNat % (movesF p ((behindF p picks.l).1)).length)) default)).toNat * 9) 0)).toNat) default).cells).toArray) (fun hg => rp_loadN H 2 rfl rfl rfl Tryz.underlying52 rfl sz52 (Nat.le_of_ble_eq_true rfl) (cs' := ((p.threads.l.getD ((((movesF p ((behindF p picks.l).1)).getD (((a).toNat % (movesF p ((behindF p picks.l).1)).length)) default)).toNat) default).l.getD ((((behindF p picks.l).1.getD ((((movesF p ((behindF p picks.l).1)).getD (((a).toNat % (movesF p ((behindF p picks.l).1)).length)) default)).toNat * 9) 0)).toNat) default).cells) rfl) ?_
    simp only [N]
    refine wl_gE H (wn_f rfl rfl) (fun hg => fun w => by simp only [gv_t hg]; exact rc_go Tryz.func15 (by kernel_rfl) rfl w) (v := .bool (stillF ((p.threads.l.getD ((((movesF p ((behindF p picks.l).1)).getD (((a).toNat % (movesF p ((behindF p picks.l).1)).length)) default)).toNat) default).l.getD ((((behindF p picks.l).1.getD ((((movesF p ((behindF p picks.l).1)).getD (((a).toNat % (movesF p ((behindF p picks.l).1)).length)) default)).toNat * 9) 0)).toNat) default))) (fun hg => by have x21 : (((p.threads.l.getD ((((movesF p ((behindF p picks.l).1)).getD (((a).toNat % (movesF p ((behindF p picks.l).1)).length)) default)).toNat) default).l.getD ((((behindF p picks.l).1.getD ((((movesF p ((behindF p picks.l).1)).getD (((a).toNat % (movesF p ((behindF p picks.l).1)).length)) default)).toNat * 9) 0)).toNat) default).loc).toNat = (((p.threads.l.getD ((((movesF p ((behindF p picks.l).1)).getD (((b).toNat % (movesF p ((behindF p picks.l).1)).length)) default)).toNat) default).l.getD ((((behindF p picks.l).1.getD ((((movesF p ((behindF p picks.l).1)).getD (((b).toNat % (movesF p ((behindF p picks.l).1)).length)) default)).toNat * 9) 0)).toNat) default).loc).toNat := u8_eq2 (notT hg); exact (stillF_spec ((p.threads.l.getD ((((movesF p ((behindF p picks.l).1)).getD (((a).toNat % (movesF p ((behindF p picks.l).1)).length)) default)).toNat) default).l.getD ((((behindF p picks.l).1.getD ((((movesF p ((behindF p picks.l).1)).getD (((a).toNat % (movesF p ((behindF p picks.l).1)).length)) default)).toNat * 9) 0)).toNat) default) _ )) ?_
    clear H; intro w22 H
    simp only [N]
    refine wl_run rfl (rp_pickO rfl (p := (((p.threads.l.getD ((((movesF p ((behindF p picks.l).1)).getD (((a).toNat % (movesF p ((behindF p picks.l).1)).length)) default)).toNat) default).l.getD ((((behindF p picks.l).1.getD ((((movesF p ((behindF p picks.l).1)).getD (((a).toNat % (movesF p ((behindF p picks.l).1)).length)) default)).toNat * 9) 0)).toNat) default).loc != ((p.threads.l.getD ((((movesF p ((behindF p picks.l).1)).getD (((b).toNat % (movesF p ((behindF p picks.l).1)).length)) default)).toNat) default).l.getD ((((behindF p picks.l).1.getD ((((movesF p ((behindF p picks.l).1)).getD (((b).toNat % (movesF p ((behindF p picks.l).1)).length)) default)).toNat * 9) 0)).toNat) default).loc)) (q := (stillF ((p.threads.l.getD ((((movesF p ((behindF p picks.l).1)).getD (((a).toNat % (movesF p ((behindF p picks.l).1)).length)) default)).toNat) default).l.getD ((((behindF p picks.l).1.getD ((((movesF p ((behindF p picks.l).1)).getD (((a).toNat % (movesF p ((behindF p picks.l).1)).length)) default)).toNat * 9) 0)).toNat) default))) rfl rfl rfl) ?_
    simp only [N]
    refine wl_run rfl (rp_move rfl (v := .bool ((((p.threads.l.getD ((((movesF p ((behindF p picks.l).1)).getD (((a).toNat % (movesF p ((behindF p picks.l).1)).length)) default)).toNat) default).l.getD ((((behindF p picks.l).1.getD ((((movesF p ((behindF p picks.l).1)).getD (((a).toNat % (movesF p ((behindF p picks.l).1)).length)) default)).toNat * 9) 0)).toNat) default).loc != ((p.threads.l.getD ((((movesF p ((behindF p picks.l).1)).getD (((b).toNat % (movesF p ((behindF p picks.l).1)).length)) default)).toNat) default).l.getD ((((behindF p picks.l).1.getD ((((movesF p ((behindF p picks.l).1)).getD (((b).toNat % (movesF p ((behindF p picks.l).1)).length)) default)).toNat * 9) 0)).toNat) default).loc) || (stillF ((p.threads.l.getD ((((movesF p ((behindF p picks.l).1)).getD (((a).toNat % (movesF p ((behindF p picks.l).1)).length)) default)).toNat) default).l.getD ((((behindF p picks.l).1.getD ((((movesF p ((behindF p picks.l).1)).getD (((a).toNat % (movesF p ((behindF p picks.l).1)).length)) default)).toNat * 9) 0)).toNat) default)))) rfl) ?_
    simp only [N]
    refine wl_g (wn_f rfl rfl) (v := .agg (((p.threads.l.getD ((((movesF p ((behindF p picks.l).1)).getD (((b).toNat % (movesF p ((behindF p picks.l).1)).length)) default)).toNat) default).l.getD ((((behindF p picks.l).1.getD ((((movesF p ((behindF p picks.l).1)).getD (((b).toNat % (movesF p ((behindF p picks.l).1)).length)) default)).toNat * 9) 0)).toNat) default).cells).toArray) (fun hg => rp_loadN H 3 rfl rfl rfl Tryz.underlying52 rfl sz52 (Nat.le_of_ble_eq_true rfl) (cs' := ((p.threads.l.getD ((((movesF p ((behindF p picks.l).1)).getD (((b).toNat % (movesF p ((behindF p picks.l).1)).length)) default)).toNat) default).l.getD ((((behindF p picks.l).1.getD ((((movesF p ((behindF p picks.l).1)).getD (((b).toNat % (movesF p ((behindF p picks.l).1)).length)) default)).toNat * 9) 0)).toNat) default).cells) rfl) ?_
    simp only [N]
    refine wl_gE H (wn_f rfl rfl) (fun hg => fun w => by simp only [gv_t hg]; exact rc_go Tryz.func15 (by kernel_rfl) rfl w) (v := .bool (stillF ((p.threads.l.getD ((((movesF p ((behindF p picks.l).1)).getD (((b).toNat % (movesF p ((behindF p picks.l).1)).length)) default)).toNat) default).l.getD ((((behindF p picks.l).1.getD ((((movesF p ((behindF p picks.l).1)).getD (((b).toNat % (movesF p ((behindF p picks.l).1)).length)) default)).toNat * 9) 0)).toNat) default))) (fun hg => by have x23 : (((p.threads.l.getD ((((movesF p ((behindF p picks.l).1)).getD (((a).toNat % (movesF p ((behindF p picks.l).1)).length)) default)).toNat) default).l.getD ((((behindF p picks.l).1.getD ((((movesF p ((behindF p picks.l).1)).getD (((a).toNat % (movesF p ((behindF p picks.l).1)).length)) default)).toNat * 9) 0)).toNat) default).loc).toNat = (((p.threads.l.getD ((((movesF p ((behindF p picks.l).1)).getD (((b).toNat % (movesF p ((behindF p picks.l).1)).length)) default)).toNat) default).l.getD ((((behindF p picks.l).1.getD ((((movesF p ((behindF p picks.l).1)).getD (((b).toNat % (movesF p ((behindF p picks.l).1)).length)) default)).toNat * 9) 0)).toNat) default).loc).toNat := u8_eq2 (orl (notT hg)); exact (stillF_spec ((p.threads.l.getD ((((movesF p ((behindF p picks.l).1)).getD (((b).toNat % (movesF p ((behindF p picks.l).1)).length)) default)).toNat) default).l.getD ((((behindF p picks.l).1.getD ((((movesF p ((behindF p picks.l).1)).getD (((b).toNat % (movesF p ((behindF p picks.l).1)).length)) default)).toNat * 9) 0)).toNat) default) _ )) ?_
    clear H; intro w23 H
    simp only [N]
    refine wl_run rfl (rp_pickO rfl (p := ((((p.threads.l.getD ((((movesF p ((behindF p picks.l).1)).getD (((a).toNat % (movesF p ((behindF p picks.l).1)).length)) default)).toNat) default).l.getD ((((behindF p picks.l).1.getD ((((movesF p ((behindF p picks.l).1)).getD (((a).toNat % (movesF p ((behindF p picks.l).1)).length)) default)).toNat * 9) 0)).toNat) default).loc != ((p.threads.l.getD ((((movesF p ((behindF p picks.l).1)).getD (((b).toNat % (movesF p ((behindF p picks.l).1)).length)) default)).toNat) default).l.getD ((((behindF p picks.l).1.getD ((((movesF p ((behindF p picks.l).1)).getD (((b).toNat % (movesF p ((behindF p picks.l).1)).length)) default)).toNat * 9) 0)).toNat) default).loc) || (stillF ((p.threads.l.getD ((((movesF p ((behindF p picks.l).1)).getD (((a).toNat % (movesF p ((behindF p picks.l).1)).length)) default)).toNat) default).l.getD ((((behindF p picks.l).1.getD ((((movesF p ((behindF p picks.l).1)).getD (((a).toNat % (movesF p ((behindF p picks.l).1)).length)) default)).toNat * 9) 0)).toNat) default)))) (q := (stillF ((p.threads.l.getD ((((movesF p ((behindF p picks.l).1)).getD (((b).toNat % (movesF p ((behindF p picks.l).1)).length)) default)).toNat) default).l.getD ((((behindF p picks.l).1.getD ((((movesF p ((behindF p picks.l).1)).getD (((b).toNat % (movesF p ((behindF p picks.l).1)).length)) default)).toNat * 9) 0)).toNat) default))) rfl rfl rfl) ?_
    simp only [N]
    refine wl_run rfl (rp_move rfl (v := .bool (((((p.threads.l.getD ((((movesF p ((behindF p picks.l).1)).getD (((a).toNat % (movesF p ((behindF p picks.l).1)).length)) default)).toNat) default).l.getD ((((behindF p picks.l).1.getD ((((movesF p ((behindF p picks.l).1)).getD (((a).toNat % (movesF p ((behindF p picks.l).1)).length)) default)).toNat * 9) 0)).toNat) default).loc != ((p.threads.l.getD ((((movesF p ((behindF p picks.l).1)).getD (((b).toNat % (movesF p ((behindF p picks.l).1)).length)) default)).toNat) default).l.getD ((((behindF p picks.l).1.getD ((((movesF p ((behindF p picks.l).1)).getD (((b).toNat % (movesF p ((behindF p picks.l).1)).length)) default)).toNat * 9) 0)).toNat) default).loc) || (stillF ((p.threads.l.getD ((((movesF p ((behindF p picks.l).1)).getD (((a).toNat % (movesF p ((behindF p picks.l).1)).length)) default)).toNat) default).l.getD ((((behindF p picks.l).1.getD ((((movesF p ((behindF p picks.l).1)).getD (((a).toNat % (movesF p ((behindF p picks.l).1)).length)) default)).toNat * 9) 0)).toNat) default))) || (stillF ((p.threads.l.getD ((((movesF p ((behindF p picks.l).1)).getD (((b).toNat % (movesF p ((behindF p picks.l).1)).length)) default)).toNat) default).l.getD ((((behindF p picks.l).1.getD ((((movesF p ((behindF p picks.l).1)).getD (((b).toNat % (movesF p ((behindF p picks.l).1)).length)) default)).toNat * 9) 0)).toNat) default)))) rfl) ?_
    simp only [N]
    refine wl_g (wn_f rfl rfl) (v := .pointer (some ⟨b3, 0, none⟩)) (fun hg => rp_fieldAddr rfl Tryz.underlying52 rfl 0 rfl sz5 rfl (0) rfl) ?_
    simp only [N]
    refine wl_g (wn_f rfl rfl) (v := bv ((p.threads.l.getD ((((movesF p ((behindF p picks.l).1)).getD (((a).toNat % (movesF p ((behindF p picks.l).1)).length)) default)).toNat) default).l.getD ((((behindF p picks.l).1.getD ((((movesF p ((behindF p picks.l).1)).getD (((a).toNat % (movesF p ((behindF p picks.l).1)).length)) default)).toNat * 9) 0)).toNat) default).op) (fun hg => by have x25 : (((p.threads.l.getD ((((movesF p ((behindF p picks.l).1)).getD (((a).toNat % (movesF p ((behindF p picks.l).1)).length)) default)).toNat) default).l.getD ((((behindF p picks.l).1.getD ((((movesF p ((behindF p picks.l).1)).getD (((a).toNat % (movesF p ((behindF p picks.l).1)).length)) default)).toNat * 9) 0)).toNat) default).loc).toNat = (((p.threads.l.getD ((((movesF p ((behindF p picks.l).1)).getD (((b).toNat % (movesF p ((behindF p picks.l).1)).length)) default)).toNat) default).l.getD ((((behindF p picks.l).1.getD ((((movesF p ((behindF p picks.l).1)).getD (((b).toNat % (movesF p ((behindF p picks.l).1)).length)) default)).toNat * 9) 0)).toNat) default).loc).toNat := u8_eq2 (orl (orl (notT hg))); exact (by simp only [gv_t hg]; exact rp_load1 H 2 rfl rfl rfl Tryz.underlying5 rfl (v := bv ((p.threads.l.getD ((((movesF p ((behindF p picks.l).1)).getD (((a).toNat % (movesF p ((behindF p picks.l).1)).length)) default)).toNat) default).l.getD ((((behindF p picks.l).1.getD ((((movesF p ((behindF p picks.l).1)).getD (((a).toNat % (movesF p ((behindF p picks.l).1)).length)) default)).toNat * 9) 0)).toNat) default).op) rfl)) ?_
    simp only [N]
    refine wl_g (wn_f rfl rfl) (v := .bool (((p.threads.l.getD ((((movesF p ((behindF p picks.l).1)).getD (((a).toNat % (movesF p ((behindF p picks.l).1)).length)) default)).toNat) default).l.getD ((((behindF p picks.l).1.getD ((((movesF p ((behindF p picks.l).1)).getD (((a).toNat % (movesF p ((behindF p picks.l).1)).length)) default)).toNat * 9) 0)).toNat) default).op == (1 : UInt8))) (fun hg => by have x26 : (((p.threads.l.getD ((((movesF p ((behindF p picks.l).1)).getD (((a).toNat % (movesF p ((behindF p picks.l).1)).length)) default)).toNat) default).l.getD ((((behindF p picks.l).1.getD ((((movesF p ((behindF p picks.l).1)).getD (((a).toNat % (movesF p ((behindF p picks.l).1)).length)) default)).toNat * 9) 0)).toNat) default).loc).toNat = (((p.threads.l.getD ((((movesF p ((behindF p picks.l).1)).getD (((b).toNat % (movesF p ((behindF p picks.l).1)).length)) default)).toNat) default).l.getD ((((behindF p picks.l).1.getD ((((movesF p ((behindF p picks.l).1)).getD (((b).toNat % (movesF p ((behindF p picks.l).1)).length)) default)).toNat * 9) 0)).toNat) default).loc).toNat := u8_eq2 (orl (orl (notT hg))); exact (by simp only [gv_t hg]; exact rp_u8_eql rfl ((p.threads.l.getD ((((movesF p ((behindF p picks.l).1)).getD (((a).toNat % (movesF p ((behindF p picks.l).1)).length)) default)).toNat) default).l.getD ((((behindF p picks.l).1.getD ((((movesF p ((behindF p picks.l).1)).getD (((a).toNat % (movesF p ((behindF p picks.l).1)).length)) default)).toNat * 9) 0)).toNat) default).op (1 : UInt8) rfl rfl)) ?_
    simp only [N]
    refine wl_g (wn_f rfl rfl) (v := .bool (((p.threads.l.getD ((((movesF p ((behindF p picks.l).1)).getD (((a).toNat % (movesF p ((behindF p picks.l).1)).length)) default)).toNat) default).l.getD ((((behindF p picks.l).1.getD ((((movesF p ((behindF p picks.l).1)).getD (((a).toNat % (movesF p ((behindF p picks.l).1)).length)) default)).toNat * 9) 0)).toNat) default).op == (1 : UInt8))) (fun hg => by have x27 : (((p.threads.l.getD ((((movesF p ((behindF p picks.l).1)).getD (((a).toNat % (movesF p ((behindF p picks.l).1)).length)) default)).toNat) default).l.getD ((((behindF p picks.l).1.getD ((((movesF p ((behindF p picks.l).1)).getD (((a).toNat % (movesF p ((behindF p picks.l).1)).length)) default)).toNat * 9) 0)).toNat) default).loc).toNat = (((p.threads.l.getD ((((movesF p ((behindF p picks.l).1)).getD (((b).toNat % (movesF p ((behindF p picks.l).1)).length)) default)).toNat) default).l.getD ((((behindF p picks.l).1.getD ((((movesF p ((behindF p picks.l).1)).getD (((b).toNat % (movesF p ((behindF p picks.l).1)).length)) default)).toNat * 9) 0)).toNat) default).loc).toNat := u8_eq2 (orl (orl (notT hg))); exact (by simp only [gv_t hg]; exact rp_move rfl (v := .bool (((p.threads.l.getD ((((movesF p ((behindF p picks.l).1)).getD (((a).toNat % (movesF p ((behindF p picks.l).1)).length)) default)).toNat) default).l.getD ((((behindF p picks.l).1.getD ((((movesF p ((behindF p picks.l).1)).getD (((a).toNat % (movesF p ((behindF p picks.l).1)).length)) default)).toNat * 9) 0)).toNat) default).op == (1 : UInt8))) rfl)) ?_
    simp only [N]
    refine wl_g (wn_tg rfl rfl rfl) (v := .pointer (some ⟨b4, 0, none⟩)) (fun hg => rp_fieldAddr rfl Tryz.underlying52 rfl 0 rfl sz5 rfl (0) rfl) ?_
    simp only [N]
    refine wl_g (wn_tg rfl rfl rfl) (v := bv ((p.threads.l.getD ((((movesF p ((behindF p picks.l).1)).getD (((b).toNat % (movesF p ((behindF p picks.l).1)).length)) default)).toNat) default).l.getD ((((behindF p picks.l).1.getD ((((movesF p ((behindF p picks.l).1)).getD (((b).toNat % (movesF p ((behindF p picks.l).1)).length)) default)).toNat * 9) 0)).toNat) default).op) (fun hg => by have x30 : (((p.threads.l.getD ((((movesF p ((behindF p picks.l).1)).getD (((a).toNat % (movesF p ((behindF p picks.l).1)).length)) default)).toNat) default).l.getD ((((behindF p picks.l).1.getD ((((movesF p ((behindF p picks.l).1)).getD (((a).toNat % (movesF p ((behindF p picks.l).1)).length)) default)).toNat * 9) 0)).toNat) default).loc).toNat = (((p.threads.l.getD ((((movesF p ((behindF p picks.l).1)).getD (((b).toNat % (movesF p ((behindF p picks.l).1)).length)) default)).toNat) default).l.getD ((((behindF p picks.l).1.getD ((((movesF p ((behindF p picks.l).1)).getD (((b).toNat % (movesF p ((behindF p picks.l).1)).length)) default)).toNat * 9) 0)).toNat) default).loc).toNat := u8_eq2 (orl (orl (notT (andl hg)))); have x31 : (((p.threads.l.getD ((((movesF p ((behindF p picks.l).1)).getD (((a).toNat % (movesF p ((behindF p picks.l).1)).length)) default)).toNat) default).l.getD ((((behindF p picks.l).1.getD ((((movesF p ((behindF p picks.l).1)).getD (((a).toNat % (movesF p ((behindF p picks.l).1)).length)) default)).toNat * 9) 0)).toNat) default).op).toNat = 1 := u8_eq (andr hg); exact (by simp only [gv_t hg]; exact rp_load1 H 3 rfl rfl rfl Tryz.underlying5 rfl (v := bv ((p.threads.l.getD ((((movesF p ((behindF p picks.l).1)).getD (((b).toNat % (movesF p ((behindF p picks.l).1)).length)) default)).toNat) default).l.getD ((((behindF p picks.l).1.getD ((((movesF p ((behindF p picks.l).1)).getD (((b).toNat % (movesF p ((behindF p picks.l).1)).length)) default)).toNat * 9) 0)).toNat) default).op) rfl)) ?_
    simp only [N]
    refine wl_g (wn_tg rfl rfl rfl) (v := .bool (((p.threads.l.getD ((((movesF p ((behindF p picks.l).1)).getD (((b).toNat % (movesF p ((behindF p picks.l).1)).length)) default)).toNat) default).l.getD ((((behindF p picks.l).1.getD ((((movesF p ((behindF p picks.l).1)).getD (((b).toNat % (movesF p ((behindF p picks.l).1)).length)) default)).toNat * 9) 0)).toNat) default).op == (1 : UInt8))) (fun hg => by have x32 : (((p.threads.l.getD ((((movesF p ((behindF p picks.l).1)).getD (((a).toNat % (movesF p ((behindF p picks.l).1)).length)) default)).toNat) default).l.getD ((((behindF p picks.l).1.getD ((((movesF p ((behindF p picks.l).1)).getD (((a).toNat % (movesF p ((behindF p picks.l).1)).length)) default)).toNat * 9) 0)).toNat) default).loc).toNat = (((p.threads.l.getD ((((movesF p ((behindF p picks.l).1)).getD (((b).toNat % (movesF p ((behindF p picks.l).1)).length)) default)).toNat) default).l.getD ((((behindF p picks.l).1.getD ((((movesF p ((behindF p picks.l).1)).getD (((b).toNat % (movesF p ((behindF p picks.l).1)).length)) default)).toNat * 9) 0)).toNat) default).loc).toNat := u8_eq2 (orl (orl (notT (andl hg)))); have x33 : (((p.threads.l.getD ((((movesF p ((behindF p picks.l).1)).getD (((a).toNat % (movesF p ((behindF p picks.l).1)).length)) default)).toNat) default).l.getD ((((behindF p picks.l).1.getD ((((movesF p ((behindF p picks.l).1)).getD (((a).toNat % (movesF p ((behindF p picks.l).1)).length)) default)).toNat * 9) 0)).toNat) default).op).toNat = 1 := u8_eq (andr hg); exact (by simp only [gv_t hg]; exact rp_u8_eql rfl ((p.threads.l.getD ((((movesF p ((behindF p picks.l).1)).getD (((b).toNat % (movesF p ((behindF p picks.l).1)).length)) default)).toNat) default).l.getD ((((behindF p picks.l).1.getD ((((movesF p ((behindF p picks.l).1)).getD (((b).toNat % (movesF p ((behindF p picks.l).1)).length)) default)).toNat * 9) 0)).toNat) default).op (1 : UInt8) rfl rfl)) ?_
    simp only [N]
    refine wl_g (wn_f rfl rfl) (v := .bool ((((p.threads.l.getD ((((movesF p ((behindF p picks.l).1)).getD (((a).toNat % (movesF p ((behindF p picks.l).1)).length)) default)).toNat) default).l.getD ((((behindF p picks.l).1.getD ((((movesF p ((behindF p picks.l).1)).getD (((a).toNat % (movesF p ((behindF p picks.l).1)).length)) default)).toNat * 9) 0)).toNat) default).op == (1 : UInt8)) && (((p.threads.l.getD ((((movesF p ((behindF p picks.l).1)).getD (((b).toNat % (movesF p ((behindF p picks.l).1)).length)) default)).toNat) default).l.getD ((((behindF p picks.l).1.getD ((((movesF p ((behindF p picks.l).1)).getD (((b).toNat % (movesF p ((behindF p picks.l).1)).length)) default)).toNat * 9) 0)).toNat) default).op == (1 : UInt8)))) (fun hg => rp_pickAg rfl (p := (((p.threads.l.getD ((((movesF p ((behindF p picks.l).1)).getD (((a).toNat % (movesF p ((behindF p picks.l).1)).length)) default)).toNat) default).l.getD ((((behindF p picks.l).1.getD ((((movesF p ((behindF p picks.l).1)).getD (((a).toNat % (movesF p ((behindF p picks.l).1)).length)) default)).toNat * 9) 0)).toNat) default).op == (1 : UInt8))) (q := (((p.threads.l.getD ((((movesF p ((behindF p picks.l).1)).getD (((b).toNat % (movesF p ((behindF p picks.l).1)).length)) default)).toNat) default).l.getD ((((behindF p picks.l).1.getD ((((movesF p ((behindF p picks.l).1)).getD (((b).toNat % (movesF p ((behindF p picks.l).1)).length)) default)).toNat * 9) 0)).toNat) default).op == (1 : UInt8))) hg rfl rfl rfl) ?_
    simp only [N]
    refine wl_run rfl (rp_pickO rfl (p := (((((p.threads.l.getD ((((movesF p ((behindF p picks.l).1)).getD (((a).toNat % (movesF p ((behindF p picks.l).1)).length)) default)).toNat) default).l.getD ((((behindF p picks.l).1.getD ((((movesF p ((behindF p picks.l).1)).getD (((a).toNat % (movesF p ((behindF p picks.l).1)).length)) default)).toNat * 9) 0)).toNat) default).loc != ((p.threads.l.getD ((((movesF p ((behindF p picks.l).1)).getD (((b).toNat % (movesF p ((behindF p picks.l).1)).length)) default)).toNat) default).l.getD ((((behindF p picks.l).1.getD ((((movesF p ((behindF p picks.l).1)).getD (((b).toNat % (movesF p ((behindF p picks.l).1)).length)) default)).toNat * 9) 0)).toNat) default).loc) || (stillF ((p.threads.l.getD ((((movesF p ((behindF p picks.l).1)).getD (((a).toNat % (movesF p ((behindF p picks.l).1)).length)) default)).toNat) default).l.getD ((((behindF p picks.l).1.getD ((((movesF p ((behindF p picks.l).1)).getD (((a).toNat % (movesF p ((behindF p picks.l).1)).length)) default)).toNat * 9) 0)).toNat) default))) || (stillF ((p.threads.l.getD ((((movesF p ((behindF p picks.l).1)).getD (((b).toNat % (movesF p ((behindF p picks.l).1)).length)) default)).toNat) default).l.getD ((((behindF p picks.l).1.getD ((((movesF p ((behindF p picks.l).1)).getD (((b).toNat % (movesF p ((behindF p picks.l).1)).length)) default)).toNat * 9) 0)).toNat) default)))) (q := ((((p.threads.l.getD ((((movesF p ((behindF p picks.l).1)).getD (((a).toNat % (movesF p ((behindF p picks.l).1)).length)) default)).toNat) default).l.getD ((((behindF p picks.l).1.getD ((((movesF p ((behindF p picks.l).1)).getD (((a).toNat % (movesF p ((behindF p picks.l).1)).length)) default)).toNat * 9) 0)).toNat) default).op == (1 : UInt8)) && (((p.threads.l.getD ((((movesF p ((behindF p picks.l).1)).getD (((b).toNat % (movesF p ((behindF p picks.l).1)).length)) default)).toNat) default).l.getD ((((behindF p picks.l).1.getD ((((movesF p ((behindF p picks.l).1)).getD (((b).toNat % (movesF p ((behindF p picks.l).1)).length)) default)).toNat * 9) 0)).toNat) default).op == (1 : UInt8)))) rfl rfl rfl) ?_
    simp only [N]
    refine wl_run rfl (rp_assign rfl (v := .bool ((((((p.threads.l.getD ((((movesF p ((behindF p picks.l).1)).getD (((a).toNat % (movesF p ((behindF p picks.l).1)).length)) default)).toNat) default).l.getD ((((behindF p picks.l).1.getD ((((movesF p ((behindF p picks.l).1)).getD (((a).toNat % (movesF p ((behindF p picks.l).1)).length)) default)).toNat * 9) 0)).toNat) default).loc != ((p.threads.l.getD ((((movesF p ((behindF p picks.l).1)).getD (((b).toNat % (movesF p ((behindF p picks.l).1)).length)) default)).toNat) default).l.getD ((((behindF p picks.l).1.getD ((((movesF p ((behindF p picks.l).1)).getD (((b).toNat % (movesF p ((behindF p picks.l).1)).length)) default)).toNat * 9) 0)).toNat) default).loc) || (stillF ((p.threads.l.getD ((((movesF p ((behindF p picks.l).1)).getD (((a).toNat % (movesF p ((behindF p picks.l).1)).length)) default)).toNat) default).l.getD ((((behindF p picks.l).1.getD ((((movesF p ((behindF p picks.l).1)).getD (((a).toNat % (movesF p ((behindF p picks.l).1)).length)) default)).toNat * 9) 0)).toNat) default))) || (stillF ((p.threads.l.getD ((((movesF p ((behindF p picks.l).1)).getD (((b).toNat % (movesF p ((behindF p picks.l).1)).length)) default)).toNat) default).l.getD ((((behindF p picks.l).1.getD ((((movesF p ((behindF p picks.l).1)).getD (((b).toNat % (movesF p ((behindF p picks.l).1)).length)) default)).toNat * 9) 0)).toNat) default))) || ((((p.threads.l.getD ((((movesF p ((behindF p picks.l).1)).getD (((a).toNat % (movesF p ((behindF p picks.l).1)).length)) default)).toNat) default).l.getD ((((behindF p picks.l).1.getD ((((movesF p ((behindF p picks.l).1)).getD (((a).toNat % (movesF p ((behindF p picks.l).1)).length)) default)).toNat * 9) 0)).toNat) default).op == (1 : UInt8)) && (((p.threads.l.getD ((((movesF p ((behindF p picks.l).1)).getD (((b).toNat % (movesF p ((behindF p picks.l).1)).length)) default)).toNat) default).l.getD ((((behindF p picks.l).1.getD ((((movesF p ((behindF p picks.l).1)).getD (((b).toNat % (movesF p ((behindF p picks.l).1)).length)) default)).toNat * 9) 0)).toNat) default).op == (1 : UInt8))))) rfl) ?_
    simp only [N]
    refine wpList_nil ?_
    refine wp_seq ?_
    refine wp_region_lit ?_
    refine wl_run rfl (rp_move rfl (v := .bool ((((((p.threads.l.getD ((((movesF p ((behindF p picks.l).1)).getD (((a).toNat % (movesF p ((behindF p picks.l).1)).length)) default)).toNat) default).l.getD ((((behindF p picks.l).1.getD ((((movesF p ((behindF p picks.l).1)).getD (((a).toNat % (movesF p ((behindF p picks.l).1)).length)) default)).toNat * 9) 0)).toNat) default).loc != ((p.threads.l.getD ((((movesF p ((behindF p picks.l).1)).getD (((b).toNat % (movesF p ((behindF p picks.l).1)).length)) default)).toNat) default).l.getD ((((behindF p picks.l).1.getD ((((movesF p ((behindF p picks.l).1)).getD (((b).toNat % (movesF p ((behindF p picks.l).1)).length)) default)).toNat * 9) 0)).toNat) default).loc) || (stillF ((p.threads.l.getD ((((movesF p ((behindF p picks.l).1)).getD (((a).toNat % (movesF p ((behindF p picks.l).1)).length)) default)).toNat) default).l.getD ((((behindF p picks.l).1.getD ((((movesF p ((behindF p picks.l).1)).getD (((a).toNat % (movesF p ((behindF p picks.l).1)).length)) default)).toNat * 9) 0)).toNat) default))) || (stillF ((p.threads.l.getD ((((movesF p ((behindF p picks.l).1)).getD (((b).toNat % (movesF p ((behindF p picks.l).1)).length)) default)).toNat) default).l.getD ((((behindF p picks.l).1.getD ((((movesF p ((behindF p picks.l).1)).getD (((b).toNat % (movesF p ((behindF p picks.l).1)).length)) default)).toNat * 9) 0)).toNat) default))) || ((((p.threads.l.getD ((((movesF p ((behindF p picks.l).1)).getD (((a).toNat % (movesF p ((behindF p picks.l).1)).length)) default)).toNat) default).l.getD ((((behindF p picks.l).1.getD ((((movesF p ((behindF p picks.l).1)).getD (((a).toNat % (movesF p ((behindF p picks.l).1)).length)) default)).toNat * 9) 0)).toNat) default).op == (1 : UInt8)) && (((p.threads.l.getD ((((movesF p ((behindF p picks.l).1)).getD (((b).toNat % (movesF p ((behindF p picks.l).1)).length)) default)).toNat) default).l.getD ((((behindF p picks.l).1.getD ((((movesF p ((behindF p picks.l).1)).getD (((b).toNat % (movesF p ((behindF p picks.l).1)).length)) default)).toNat * 9) 0)).toNat) default).op == (1 : UInt8))))) rfl) ?_
    simp only [N]
    refine wl_run rfl (rp_not rfl ((((((p.threads.l.getD ((((movesF p ((behindF p picks.l).1)).getD (((a).toNat % (movesF p ((behindF p picks.l).1)).length)) default)).toNat) default).l.getD ((((behindF p picks.l).1.getD ((((movesF p ((behindF p picks.l).1)).getD (((a).toNat % (movesF p ((behindF p picks.l).1)).length)) default)).toNat * 9) 0)).toNat) default).loc != ((p.threads.l.getD ((((movesF p ((behindF p picks.l).1)).getD (((b).toNat % (movesF p ((behindF p picks.l).1)).length)) default)).toNat) default).l.getD ((((behindF p picks.l).1.getD ((((movesF p ((behindF p picks.l).1)).getD (((b).toNat % (movesF p ((behindF p picks.l).1)).length)) default)).toNat * 9) 0)).toNat) default).loc) || (stillF ((p.threads.l.getD ((((movesF p ((behindF p picks.l).1)).getD (((a).toNat % (movesF p ((behindF p picks.l).1)).length)) default)).toNat) default).l.getD ((((behindF p picks.l).1.getD ((((movesF p ((behindF p picks.l).1)).getD (((a).toNat % (movesF p ((behindF p picks.l).1)).length)) default)).toNat * 9) 0)).toNat) default))) || (stillF ((p.threads.l.getD ((((movesF p ((behindF p picks.l).1)).getD (((b).toNat % (movesF p ((behindF p picks.l).1)).length)) default)).toNat) default).l.getD ((((behindF p picks.l).1.getD ((((movesF p ((behindF p picks.l).1)).getD (((b).toNat % (movesF p ((behindF p picks.l).1)).length)) default)).toNat * 9) 0)).toNat) default))) || ((((p.threads.l.getD ((((movesF p ((behindF p picks.l).1)).getD (((a).toNat % (movesF p ((behindF p picks.l).1)).length)) default)).toNat) default).l.getD ((((behindF p picks.l).1.getD ((((movesF p ((behindF p picks.l).1)).getD (((a).toNat % (movesF p ((behindF p picks.l).1)).length)) default)).toNat * 9) 0)).toNat) default).op == (1 : UInt8)) && (((p.threads.l.getD ((((movesF p ((behindF p picks.l).1)).getD (((b).toNat % (movesF p ((behindF p picks.l).1)).length)) default)).toNat) default).l.getD ((((behindF p picks.l).1.getD ((((movesF p ((behindF p picks.l).1)).getD (((b).toNat % (movesF p ((behindF p picks.l).1)).length)) default)).toNat * 9) 0)).toNat) default).op == (1 : UInt8)))) rfl) ?_
    simp only [N]
    refine wl_run rfl (rp_move rfl (v := .bool (!((((((p.threads.l.getD ((((movesF p ((behindF p picks.l).1)).getD (((a).toNat % (movesF p ((behindF p picks.l).1)).length)) default)).toNat) default).l.getD ((((behindF p picks.l).1.getD ((((movesF p ((behindF p picks.l).1)).getD (((a).toNat % (movesF p ((behindF p picks.l).1)).length)) default)).toNat * 9) 0)).toNat) default).loc != ((p.threads.l.getD ((((movesF p ((behindF p picks.l).1)).getD (((b).toNat % (movesF p ((behindF p picks.l).1)).length)) default)).toNat) default).l.getD ((((behindF p picks.l).1.getD ((((movesF p ((behindF p picks.l).1)).getD (((b).toNat % (movesF p ((behindF p picks.l).1)).length)) default)).toNat * 9) 0)).toNat) default).loc) || (stillF ((p.threads.l.getD ((((movesF p ((behindF p picks.l).1)).getD (((a).toNat % (movesF p ((behindF p picks.l).1)).length)) default)).toNat) default).l.getD ((((behindF p picks.l).1.getD ((((movesF p ((behindF p picks.l).1)).getD (((a).toNat % (movesF p ((behindF p picks.l).1)).length)) default)).toNat * 9) 0)).toNat) default))) || (stillF ((p.threads.l.getD ((((movesF p ((behindF p picks.l).1)).getD (((b).toNat % (movesF p ((behindF p picks.l).1)).length)) default)).toNat) default).l.getD ((((behindF p picks.l).1.getD ((((movesF p ((behindF p picks.l).1)).getD (((b).toNat % (movesF p ((behindF p picks.l).1)).length)) default)).toNat * 9) 0)).toNat) default))) || ((((p.threads.l.getD ((((movesF p ((behindF p picks.l).1)).getD (((a).toNat % (movesF p ((behindF p picks.l).1)).length)) default)).toNat) default).l.getD ((((behindF p picks.l).1.getD ((((movesF p ((behindF p picks.l).1)).getD (((a).toNat % (movesF p ((behindF p picks.l).1)).length)) default)).toNat * 9) 0)).toNat) default).op == (1 : UInt8)) && (((p.threads.l.getD ((((movesF p ((behindF p picks.l).1)).getD (((b).toNat % (movesF p ((behindF p picks.l).1)).length)) default)).toNat) default).l.getD ((((behindF p picks.l).1.getD ((((movesF p ((behindF p picks.l).1)).getD (((b).toNat % (movesF p ((behindF p picks.l).1)).length)) default)).toNat * 9) 0)).toNat) default).op == (1 : UInt8)))))) rfl) ?_
    simp only [N]
    refine wl_g (wn_f rfl rfl) (v := .agg (enc v110.1).toArray) (fun hg => rp_loadWe H 1 rfl rfl rfl Tryz.underlying41 rfl (by first | exact sz41 | (rw [sz41]; congr 1; first | omega | (simp [-List.reduceReplicate]; done) | (simp [-List.reduceReplicate]; omega) | (simp [*, -List.reduceReplicate]; done) | (simp [*, -List.reduceReplicate]; omega))) rfl) ?_
    simp only [N]
    refine wl_g (wn_f rfl rfl) (v := .agg (enc v117.1).toArray) (fun hg => rp_loadWe H 0 rfl rfl rfl Tryz.underlying41 rfl (by first | exact sz41 | (rw [sz41]; congr 1; first | omega | (simp [-List.reduceReplicate]; done) | (simp [-List.reduceReplicate]; omega) | (simp [*, -List.reduceReplicate]; done) | (simp [*, -List.reduceReplicate]; omega))) rfl) ?_
    simp only [N]
    refine wl_g (wn_f rfl rfl) (v := .bool (decide (v110.1 = v117.1))) (fun hg => by simp only [gv_t hg]; exact rp_eql_leafs rfl 6 (by decide) (by kernel_rfl) (by kernel_rfl) (ks := (List.replicate 142 (.int .u8))) (by kernel_rfl) (xs := enc v110.1) (ys := enc v117.1) rfl rfl (formed_enc Tryz.underlying41 rfl sz41 (by first | omega | (simp [-List.reduceReplicate]; done) | (simp [-List.reduceReplicate]; omega) | (simp [*, -List.reduceReplicate]; done) | (simp [*, -List.reduceReplicate]; omega))) (formed_enc Tryz.underlying41 rfl sz41 (by first | omega | (simp [-List.reduceReplicate]; done) | (simp [-List.reduceReplicate]; omega) | (simp [*, -List.reduceReplicate]; done) | (simp [*, -List.reduceReplicate]; omega))) (fits_enc (by first | omega | (simp [-List.reduceReplicate]; done) | (simp [-List.reduceReplicate]; omega) | (simp [*, -List.reduceReplicate]; done) | (simp [*, -List.reduceReplicate]; omega))) (fits_enc (by first | omega | (simp [-List.reduceReplicate]; done) | (simp [-List.reduceReplicate]; omega) | (simp [*, -List.reduceReplicate]; done) | (simp [*, -List.reduceReplicate]; omega))) (r := (decide (v110.1 = v117.1))) (by exact enc_iff _ _)) ?_
    simp only [N]
    refine wl_run rfl (rp_pickO rfl (p := (!((((((p.threads.l.getD ((((movesF p ((behindF p picks.l).1)).getD (((a).toNat % (movesF p ((behindF p picks.l).1)).length)) default)).toNat) default).l.getD ((((behindF p picks.l).1.getD ((((movesF p ((behindF p picks.l).1)).getD (((a).toNat % (movesF p ((behindF p picks.l).1)).length)) default)).toNat * 9) 0)).toNat) default).loc != ((p.threads.l.getD ((((movesF p ((behindF p picks.l).1)).getD (((b).toNat % (movesF p ((behindF p picks.l).1)).length)) default)).toNat) default).l.getD ((((behindF p picks.l).1.getD ((((movesF p ((behindF p picks.l).1)).getD (((b).toNat % (movesF p ((behindF p picks.l).1)).length)) default)).toNat * 9) 0)).toNat) default).loc) || (stillF ((p.threads.l.getD ((((movesF p ((behindF p picks.l).1)).getD (((a).toNat % (movesF p ((behindF p picks.l).1)).length)) default)).toNat) default).l.getD ((((behindF p picks.l).1.getD ((((movesF p ((behindF p picks.l).1)).getD (((a).toNat % (movesF p ((behindF p picks.l).1)).length)) default)).toNat * 9) 0)).toNat) default))) || (stillF ((p.threads.l.getD ((((movesF p ((behindF p picks.l).1)).getD (((b).toNat % (movesF p ((behindF p picks.l).1)).length)) default)).toNat) default).l.getD ((((behindF p picks.l).1.getD ((((movesF p ((behindF p picks.l).1)).getD (((b).toNat % (movesF p ((behindF p picks.l).1)).length)) default)).toNat * 9) 0)).toNat) default))) || ((((p.threads.l.getD ((((movesF p ((behindF p picks.l).1)).getD (((a).toNat % (movesF p ((behindF p picks.l).1)).length)) default)).toNat) default).l.getD ((((behindF p picks.l).1.getD ((((movesF p ((behindF p picks.l).1)).getD (((a).toNat % (movesF p ((behindF p picks.l).1)).length)) default)).toNat * 9) 0)).toNat) default).op == (1 : UInt8)) && (((p.threads.l.getD ((((movesF p ((behindF p picks.l).1)).getD (((b).toNat % (movesF p ((behindF p picks.l).1)).length)) default)).toNat) default).l.getD ((((behindF p picks.l).1.getD ((((movesF p ((behindF p picks.l).1)).getD (((b).toNat % (movesF p ((behindF p picks.l).1)).length)) default)).toNat * 9) 0)).toNat) default).op == (1 : UInt8)))))) (q := (decide (v110.1 = v117.1))) rfl rfl rfl) ?_
    simp only [N]
    refine wl_run rfl (rp_move rfl (v := .bool ((!((((((p.threads.l.getD ((((movesF p ((behindF p picks.l).1)).getD (((a).toNat % (movesF p ((behindF p picks.l).1)).length)) default)).toNat) default).l.getD ((((behindF p picks.l).1.getD ((((movesF p ((behindF p picks.l).1)).getD (((a).toNat % (movesF p ((behindF p picks.l).1)).length)) default)).toNat * 9) 0)).toNat) default).loc != ((p.threads.l.getD ((((movesF p ((behindF p picks.l).1)).getD (((b).toNat % (movesF p ((behindF p picks.l).1)).length)) default)).toNat) default).l.getD ((((behindF p picks.l).1.getD ((((movesF p ((behindF p picks.l).1)).getD (((b).toNat % (movesF p ((behindF p picks.l).1)).length)) default)).toNat * 9) 0)).toNat) default).loc) || (stillF ((p.threads.l.getD ((((movesF p ((behindF p picks.l).1)).getD (((a).toNat % (movesF p ((behindF p picks.l).1)).length)) default)).toNat) default).l.getD ((((behindF p picks.l).1.getD ((((movesF p ((behindF p picks.l).1)).getD (((a).toNat % (movesF p ((behindF p picks.l).1)).length)) default)).toNat * 9) 0)).toNat) default))) || (stillF ((p.threads.l.getD ((((movesF p ((behindF p picks.l).1)).getD (((b).toNat % (movesF p ((behindF p picks.l).1)).length)) default)).toNat) default).l.getD ((((behindF p picks.l).1.getD ((((movesF p ((behindF p picks.l).1)).getD (((b).toNat % (movesF p ((behindF p picks.l).1)).length)) default)).toNat * 9) 0)).toNat) default))) || ((((p.threads.l.getD ((((movesF p ((behindF p picks.l).1)).getD (((a).toNat % (movesF p ((behindF p picks.l).1)).length)) default)).toNat) default).l.getD ((((behindF p picks.l).1.getD ((((movesF p ((behindF p picks.l).1)).getD (((a).toNat % (movesF p ((behindF p picks.l).1)).length)) default)).toNat * 9) 0)).toNat) default).op == (1 : UInt8)) && (((p.threads.l.getD ((((movesF p ((behindF p picks.l).1)).getD (((b).toNat % (movesF p ((behindF p picks.l).1)).length)) default)).toNat) default).l.getD ((((behindF p picks.l).1.getD ((((movesF p ((behindF p picks.l).1)).getD (((b).toNat % (movesF p ((behindF p picks.l).1)).length)) default)).toNat * 9) 0)).toNat) default).op == (1 : UInt8))))) || (decide (v110.1 = v117.1)))) rfl) ?_
    simp only [N]
    refine wl_gE H (wn_t rfl rfl) (fun hg => rc_go Tryz.func13 (by kernel_rfl) rfl) (v := .bool true) (fun hg => awake_spec _ (H.ro_at 3 rfl)) ?_
    clear H; intro w24 H
    simp only [N]
    refine wl_run rfl (rp_pickA rfl (p := ((!((((((p.threads.l.getD ((((movesF p ((behindF p picks.l).1)).getD (((a).toNat % (movesF p ((behindF p picks.l).1)).length)) default)).toNat) default).l.getD ((((behindF p picks.l).1.getD ((((movesF p ((behindF p picks.l).1)).getD (((a).toNat % (movesF p ((behindF p picks.l).1)).length)) default)).toNat * 9) 0)).toNat) default).loc != ((p.threads.l.getD ((((movesF p ((behindF p picks.l).1)).getD (((b).toNat % (movesF p ((behindF p picks.l).1)).length)) default)).toNat) default).l.getD ((((behindF p picks.l).1.getD ((((movesF p ((behindF p picks.l).1)).getD (((b).toNat % (movesF p ((behindF p picks.l).1)).length)) default)).toNat * 9) 0)).toNat) default).loc) || (stillF ((p.threads.l.getD ((((movesF p ((behindF p picks.l).1)).getD (((a).toNat % (movesF p ((behindF p picks.l).1)).length)) default)).toNat) default).l.getD ((((behindF p picks.l).1.getD ((((movesF p ((behindF p picks.l).1)).getD (((a).toNat % (movesF p ((behindF p picks.l).1)).length)) default)).toNat * 9) 0)).toNat) default))) || (stillF ((p.threads.l.getD ((((movesF p ((behindF p picks.l).1)).getD (((b).toNat % (movesF p ((behindF p picks.l).1)).length)) default)).toNat) default).l.getD ((((behindF p picks.l).1.getD ((((movesF p ((behindF p picks.l).1)).getD (((b).toNat % (movesF p ((behindF p picks.l).1)).length)) default)).toNat * 9) 0)).toNat) default))) || ((((p.threads.l.getD ((((movesF p ((behindF p picks.l).1)).getD (((a).toNat % (movesF p ((behindF p picks.l).1)).length)) default)).toNat) default).l.getD ((((behindF p picks.l).1.getD ((((movesF p ((behindF p picks.l).1)).getD (((a).toNat % (movesF p ((behindF p picks.l).1)).length)) default)).toNat * 9) 0)).toNat) default).op == (1 : UInt8)) && (((p.threads.l.getD ((((movesF p ((behindF p picks.l).1)).getD (((b).toNat % (movesF p ((behindF p picks.l).1)).length)) default)).toNat) default).l.getD ((((behindF p picks.l).1.getD ((((movesF p ((behindF p picks.l).1)).getD (((b).toNat % (movesF p ((behindF p picks.l).1)).length)) default)).toNat * 9) 0)).toNat) default).op == (1 : UInt8))))) || (decide (v110.1 = v117.1)))) (q := true) rfl rfl rfl) ?_
    simp only [N]
    refine wl_run rfl (rp_assign rfl (v := .bool (((!((((((p.threads.l.getD ((((movesF p ((behindF p picks.l).1)).getD (((a).toNat % (movesF p ((behindF p picks.l).1)).length)) default)).toNat) default).l.getD ((((behindF p picks.l).1.getD ((((movesF p ((behindF p picks.l).1)).getD (((a).toNat % (movesF p ((behindF p picks.l).1)).length)) default)).toNat * 9) 0)).toNat) default).loc != ((p.threads.l.getD ((((movesF p ((behindF p picks.l).1)).getD (((b).toNat % (movesF p ((behindF p picks.l).1)).length)) default)).toNat) default).l.getD ((((behindF p picks.l).1.getD ((((movesF p ((behindF p picks.l).1)).getD (((b).toNat % (movesF p ((behindF p picks.l).1)).length)) default)).toNat * 9) 0)).toNat) default).loc) || (stillF ((p.threads.l.getD ((((movesF p ((behindF p picks.l).1)).getD (((a).toNat % (movesF p ((behindF p picks.l).1)).length)) default)).toNat) default).l.getD ((((behindF p picks.l).1.getD ((((movesF p ((behindF p picks.l).1)).getD (((a).toNat % (movesF p ((behindF p picks.l).1)).length)) default)).toNat * 9) 0)).toNat) default))) || (stillF ((p.threads.l.getD ((((movesF p ((behindF p picks.l).1)).getD (((b).toNat % (movesF p ((behindF p picks.l).1)).length)) default)).toNat) default).l.getD ((((behindF p picks.l).1.getD ((((movesF p ((behindF p picks.l).1)).getD (((b).toNat % (movesF p ((behindF p picks.l).1)).length)) default)).toNat * 9) 0)).toNat) default))) || ((((p.threads.l.getD ((((movesF p ((behindF p picks.l).1)).getD (((a).toNat % (movesF p ((behindF p picks.l).1)).length)) default)).toNat) default).l.getD ((((behindF p picks.l).1.getD ((((movesF p ((behindF p picks.l).1)).getD (((a).toNat % (movesF p ((behindF p picks.l).1)).length)) default)).toNat * 9) 0)).toNat) default).op == (1 : UInt8)) && (((p.threads.l.getD ((((movesF p ((behindF p picks.l).1)).getD (((b).toNat % (movesF p ((behindF p picks.l).1)).length)) default)).toNat) default).l.getD ((((behindF p picks.l).1.getD ((((movesF p ((behindF p picks.l).1)).getD (((b).toNat % (movesF p ((behindF p picks.l).1)).length)) default)).toNat * 9) 0)).toNat) default).op == (1 : UInt8))))) || (decide (v110.1 = v117.1))) && true)) rfl) ?_
    simp only [N]
    refine wpList_nil ?_
    refine wp_ret ?_
    try simp only [Exit.inBlock, Exit.then, cutP]
    refine bodyPost_ret (results1 rfl (rv_tmp rfl)) rfl ?_
    have hF : (commF p picks.l a b) = (((!((((((p.threads.l.getD ((((movesF p ((behindF p picks.l).1)).getD (((a).toNat % (movesF p ((behindF p picks.l).1)).length)) default)).toNat) default).l.getD ((((behindF p picks.l).1.getD ((((movesF p ((behindF p picks.l).1)).getD (((a).toNat % (movesF p ((behindF p picks.l).1)).length)) default)).toNat * 9) 0)).toNat) default).loc != ((p.threads.l.getD ((((movesF p ((behindF p picks.l).1)).getD (((b).toNat % (movesF p ((behindF p picks.l).1)).length)) default)).toNat) default).l.getD ((((behindF p picks.l).1.getD ((((movesF p ((behindF p picks.l).1)).getD (((b).toNat % (movesF p ((behindF p picks.l).1)).length)) default)).toNat * 9) 0)).toNat) default).loc) || (stillF ((p.threads.l.getD ((((movesF p ((behindF p picks.l).1)).getD (((a).toNat % (movesF p ((behindF p picks.l).1)).length)) default)).toNat) default).l.getD ((((behindF p picks.l).1.getD ((((movesF p ((behindF p picks.l).1)).getD (((a).toNat % (movesF p ((behindF p picks.l).1)).length)) default)).toNat * 9) 0)).toNat) default))) || (stillF ((p.threads.l.getD ((((movesF p ((behindF p picks.l).1)).getD (((b).toNat % (movesF p ((behindF p picks.l).1)).length)) default)).toNat) default).l.getD ((((behindF p picks.l).1.getD ((((movesF p ((behindF p picks.l).1)).getD (((b).toNat % (movesF p ((behindF p picks.l).1)).length)) default)).toNat * 9) 0)).toNat) default))) || ((((p.threads.l.getD ((((movesF p ((behindF p picks.l).1)).getD (((a).toNat % (movesF p ((behindF p picks.l).1)).length)) default)).toNat) default).l.getD ((((behindF p picks.l).1.getD ((((movesF p ((behindF p picks.l).1)).getD (((a).toNat % (movesF p ((behindF p picks.l).1)).length)) default)).toNat * 9) 0)).toNat) default).op == (1 : UInt8)) && (((p.threads.l.getD ((((movesF p ((behindF p picks.l).1)).getD (((b).toNat % (movesF p ((behindF p picks.l).1)).length)) default)).toNat) default).l.getD ((((behindF p picks.l).1.getD ((((movesF p ((behindF p picks.l).1)).getD (((b).toNat % (movesF p ((behindF p picks.l).1)).length)) default)).toNat * 9) 0)).toNat) default).op == (1 : UInt8))))) || (decide (v110.1 = v117.1))) && true) := (hFv117).trans (bf hc3)
    rw [hF]
    exact ⟨rfl, H.ext⟩

end Go.Proofs.YtpnaooajmdildaaGreatDoor
