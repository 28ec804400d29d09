/- Walks, printed by a program of this repository (wip/tool). -/
import Derived.Test.YtpnaooajmdildaaGreatDoorLB
import Derived.Test.YtpnaooajmdildaaGreatDoorAny
namespace Go.Proofs.YtpnaooajmdildaaGreatDoor
open Go.RowKit
open Go
attribute [local irreducible] wpList wpQuiet wpX Code.wp
set_option maxHeartbeats 1000000
set_option maxRecDepth 100000
set_option linter.unusedSimpArgs false
set_option linter.unusedVariables false

def behindF_v47 (ra : (Int × (List UInt8)) → ((List UInt8) × Bool)) (v47 : (List UInt8) × Int) : (List UInt8) × Bool :=
  ra (v47.2, v47.1)
def behindF_a (p : Prog) (xra : UInt8) (ra : (Int × (List UInt8)) → ((List UInt8) × Bool)) : (Int × (List UInt8)) → (List UInt8) × Bool := fun s_ => match s_ with | (a7, ab3) => bif ((a7 != (0 : Int)) || ((((movesF p ab3).length : Nat) : Int) == (0 : Int))) then ((ab3, (a7 == (0 : Int)))) else (behindF_v47 ra (moveF p ab3 ((movesF p ab3).getD (((xra).toNat % (movesF p ab3).length)) default)))
def behindF_ak : (Int × (List UInt8)) → (List UInt8) × Bool := fun s_ => match s_ with | (a7, ab3) => (ab3, (a7 == (0 : Int)))
def behindF (p : Prog) (picks : List UInt8) : (List UInt8) × Bool :=
  loopL (behindF_a p) behindF_ak (picks.take (min picks.length 40)) ((startF p).2, (startF p).1)

@[simp] theorem behindF_len0 (p : Prog) (picks : List UInt8) : (((behindF p picks)).1).length = 142 := by
  unfold behindF
  refine loopL_inv (fun s : Int × List UInt8 => s.2.length = 142) (fun r : List UInt8 × Bool => r.1.length = 142) ?_ ?_ _ _ (by simp)
  · rintro x r ⟨a, l⟩ h hr
    simp only [behindF_a, behindF_v47, Bool.cond_eq_ite]
    split
    · exact h
    · exact hr _ (moveF_len0 _ _ _ h)
  · rintro ⟨a, l⟩ h; exact h

theorem behindF_spec (p : Prog) (picks : Sl UInt8) (w : World) (hp : (IsProg p) w) (hpicks : (SlIn 1 eByte picks) w) (hg_ : (Glob) w) :
    Calls Tryz.prog 10 #[.agg p.cells.toArray, picks.val] w fun e w' => e = .returned (.tuple #[.agg (enc ((behindF p picks.l)).1).toArray, .bool ((behindF p picks.l)).2]) ∧ Ext w w' := by
 have H := Own.start_ro w [IsProg p, SlIn 1 eByte picks, Glob] (List.forall_mem_cons.2 ⟨fun w' hw => hp.keep hw, List.forall_mem_cons.2 ⟨fun w' hw => hpicks.keep hw, List.forall_mem_cons.2 ⟨fun w' hw => hg_.keep hw, fun _ h => by cases h⟩⟩⟩)
 have hcp1 := hp.locs.2.2
 have hcp2 := hp.init.2.2
 have hcp3 := hp.threads.2.2
 have hcpicks := hpicks.2.2
 go_enter Tryz.func10, Tryz.ntmps10
 refine wp_seq ?_
 refine wp_region_lit ?_
 refine wl_box H rfl rfl (v := .agg (p.cells).toArray) rfl ?_
 clear H; intro b1 w1 hnb1 H; dsimp only [Value.cells] at H
 simp only [N]
 refine wl_alloc H rfl rfl zv41 ?_
 clear H; intro b2 w2 hnb2 H; dsimp only [Value.cells] at H
 simp only [N]
 simp only [enc_replicate] at H
 refine wl_run rfl (rp_assign rfl (v := .bool false) rfl) ?_
 simp only [N]
 refine wpList_nil ?_
 refine wp_seq ?_
 refine wp_region_lit ?_
 refine wl_run rfl (rp_loadN H 1 rfl rfl rfl Tryz.underlying29 rfl sz29 (Nat.le_of_ble_eq_true rfl) (cs' := p.cells) rfl) ?_
 simp only [N]
 refine wl_callE H rfl (rc_go Tryz.func19 (by kernel_rfl) rfl) (startF_spec p _ (H.ro_at 0 rfl) (H.ro_at 2 rfl)) ?_
 clear H; intro w3 H
 simp only [N]
 refine wl_run rfl (rp_move rfl (v := .tuple #[.agg (enc (startF p).1).toArray, iv (startF p).2]) rfl) ?_
 simp only [N]
 refine wl_run rfl (rp_extract rfl rfl (v := .agg (enc (startF p).1).toArray) rfl) ?_
 simp only [N]
 refine wl_run rfl (rp_extract rfl rfl (v := iv (startF p).2) rfl) ?_
 simp only [N]
 refine wl_alloc H rfl rfl zv41 ?_
 clear H; intro b3 w4 hnb3 H; dsimp only [Value.cells] at H
 simp only [N]
 simp only [enc_replicate] at H
 refine wl_storeW H 0 rfl rfl rfl rfl (vs := (enc (startF p).1).toArray) rfl (fun v hv => enc_one v (by simpa using hv)) (by first | (rw [sz41]; congr 1; done) | (rw [sz41]; congr 1; first | omega | (simp [-List.reduceReplicate]; done) | (simp [-List.reduceReplicate]; omega) | (simp [*, -List.reduceReplicate]; done) | (simp [*, -List.reduceReplicate]; omega))) (by first | omega | (simp [-List.reduceReplicate]; done) | (simp [-List.reduceReplicate]; omega) | (simp [*, -List.reduceReplicate]; done) | (simp [*, -List.reduceReplicate]; omega)) ?_
 clear H; intro w5 H; simp only [M] at H
 simp only [N]
 refine wl_run rfl (rp_assign rfl (v := iv (startF p).2) rfl) ?_
 simp only [N]
 refine wpList_nil ?_
 refine wp_seq ?_
 refine wp_seq ?_
 refine wp_region_lit ?_
 refine wl_run rfl (rp_move rfl (v := picks.val) rfl) ?_
 simp only [N]
 refine wl_run rfl (rp_move rfl (v := picks.val) rfl) ?_
 simp only [N]
 refine wl_run rfl (rp_len_sl (s := picks) Tryz.underlying23 rfl) ?_
 simp only [N]
 refine wl_run rfl (rp_vconv (rp_min2 rfl ((picks.l.length : Nat) : Int) (40 : Int) rfl rfl) (congrArg (Value.int .i64) (show min ((picks.l.length : Nat) : Int) (40 : Int) = (((min picks.l.length 40) : Nat) : Int) by omega))) ?_
 simp only [N]
 have hsl20 : (picks.l.take (min picks.l.length 40)).length ≤ 140737488355328 := by simp only [List.length_take, List.length_drop]; omega
 refine wl_run rfl (rp_slice_slh (((H.ro_at 1 rfl))) rfl Tryz.underlying23 sz5 rfl (min picks.l.length 40) rfl (by omega)) ?_
 simp only [N]
 refine wl_run rfl (rp_len_sl (s := (⟨picks.ad, picks.cap, picks.l.take (min picks.l.length 40)⟩ : Sl UInt8)) Tryz.underlying23 rfl) ?_
 simp only [N]
 refine wl_run rfl (rp_move rfl (v := iv (0 : Int)) rfl) ?_
 simp only [N]
 refine wpList_nil ?_
 refine wp_block ?_
 refine wp_loopX (fun m' a' w' => ∃ (a7 : Int) (a22 : Nat) (ab3 : List UInt8), a' = ⟨#[(tq a' 0), picks.val, .pointer (some ⟨b1, 0, none⟩), undef, .pointer (some ⟨b2, 0, none⟩), (tq a' 5), .pointer (some ⟨b3, 0, none⟩), iv a7, undef, (tq a' 9), (tq a' 10), (tq a' 11), (tq a' 12), (tq a' 13), (tq a' 14), (tq a' 15), picks.val, picks.val, (tq a' 18), (tq a' 19), (⟨picks.ad, picks.cap, picks.l.take (min picks.l.length 40)⟩ : Sl UInt8).val, iv (((picks.l.take (min picks.l.length 40)).length : Nat) : Int), iv ((a22 : Nat) : Int), (tq a' 23), (tq a' 24), (tq a' 25), (tq a' 26), (tq a' 27), (tq a' 28), (tq a' 29), (tq a' 30), (tq a' 31), (tq a' 32), (tq a' 33), (tq a' 34), (tq a' 35), (tq a' 36), (tq a' 37), (tq a' 38), (tq a' 39), (tq a' 40), (tq a' 41), (tq a' 42), (tq a' 43), (tq a' 44), (tq a' 45), (tq a' 46), (tq a' 47), (tq a' 48), (tq a' 49), (tq a' 50), undef, undef, undef], []⟩ ∧ Own w [] [IsProg p, SlIn 1 eByte picks, Glob] [.blk b3 (.cells (enc ab3).toArray 41 (0, 0)), .blk b2 (.cells (enc (List.replicate 142 (0 : UInt8))).toArray 41 (0, 0)), .blk b1 (.cells (p.cells).toArray 29 (0, 0))] w' ∧ (ab3.length = 142) ∧ (a22 ≤ (picks.l.take (min picks.l.length 40)).length) ∧ (behindF p picks.l) = loopL (behindF_a p) behindF_ak ((picks.l.take (min picks.l.length 40)).drop a22) (a7, ab3) ∧ m' = (picks.l.take (min picks.l.length 40)).length - a22) _ ⟨(startF p).2, 0, (startF p).1, (by kernel_rfl), H, (by first | omega | (simp [-List.reduceReplicate]; done) | (simp [-List.reduceReplicate]; omega) | (simp [*, -List.reduceReplicate]; done) | (simp [*, -List.reduceReplicate]; omega)), (by omega), rfl, rfl⟩ ?_
 clear H
 rintro _ a_ w6 ⟨a7, a22, ab3, ha_, H, hia0, hia1, hFa, rfl⟩
 obtain ⟨ua, hu_⟩ : ∃ ua : Nat → Value, a_ = ⟨#[(ua 0), picks.val, .pointer (some ⟨b1, 0, none⟩), undef, .pointer (some ⟨b2, 0, none⟩), (ua 5), .pointer (some ⟨b3, 0, none⟩), iv a7, undef, (ua 9), (ua 10), (ua 11), (ua 12), (ua 13), (ua 14), (ua 15), picks.val, picks.val, (ua 18), (ua 19), (⟨picks.ad, picks.cap, picks.l.take (min picks.l.length 40)⟩ : Sl UInt8).val, iv (((picks.l.take (min picks.l.length 40)).length : Nat) : Int), iv ((a22 : Nat) : Int), (ua 23), (ua 24), (ua 25), (ua 26), (ua 27), (ua 28), (ua 29), (ua 30), (ua 31), (ua 32), (ua 33), (ua 34), (ua 35), (ua 36), (ua 37), (ua 38), (ua 39), (ua 40), (ua 41), (ua 42), (ua 43), (ua 44), (ua 45), (ua 46), (ua 47), (ua 48), (ua 49), (ua 50), undef, undef, undef], []⟩ := ⟨fun n => tq a_ n, ha_⟩
 clear ha_; subst hu_
 refine wp_seq ?_
 refine wp_region_lit ?_
 refine wl_run rfl (rp_int_lss rfl ((a22 : Nat) : Int) (((picks.l.take (min picks.l.length 40)).length : Nat) : Int) rfl rfl) ?_
 simp only [N]
 refine wpList_nil ?_
 refine wp_seq ?_
 refine wp_cond_split rfl (fun hc1 => ?_) (fun hc1 => ?_)
 · --T 1
  have hc1N1 : ((a22 : Nat) : Int) < (((picks.l.take (min picks.l.length 40)).length : Nat) : Int) := (by simpa using hc1)
  obtain ⟨ra, hra⟩ : ∃ r, r = loopL (behindF_a p) behindF_ak ((picks.l.take (min picks.l.length 40)).drop (a22 + 1)) := ⟨_, rfl⟩
  have hFa2 := hFa.trans (loopL_step (show a22 < (picks.l.take (min picks.l.length 40)).length by omega))
  rw [← hra] at hFa2
  refine wp_skip ?_
  refine wp_seq ?_
  refine wp_block ?_
  refine wp_seq ?_
  refine wp_region_lit ?_
  refine wl_run rfl (rp_indexAddr_sl (SlIn.take (((H.ro_at 1 rfl))) (min picks.l.length 40) (by omega)) rfl Tryz.underlying23 sz5 rfl a22 rfl (by show _ < (picks.l.take (min picks.l.length 40)).length; omega)) ?_
  simp only [N]
  refine wl_run rfl (rp_load1_sl (SlIn.take (((H.ro_at 1 rfl))) (min picks.l.length 40) (by omega)) (a22) (by show _ < (picks.l.take (min picks.l.length 40)).length; omega) rfl Tryz.underlying5 rfl 0 rfl (by omega) (v := bv ((picks.l.take (min picks.l.length 40)).getD (a22) default)) rfl) ?_
  simp only [N]
  refine wl_run rfl (rp_assign rfl (v := bv ((picks.l.take (min picks.l.length 40)).getD (a22) default)) rfl) ?_
  simp only [N]
  refine wpList_nil ?_
  refine wp_seq ?_
  refine wp_region_lit ?_
  refine wl_run rfl (rp_loadN H 2 rfl rfl rfl Tryz.underlying29 rfl sz29 (Nat.le_of_ble_eq_true rfl) (cs' := p.cells) rfl) ?_
  simp only [N]
  refine wl_run rfl (rp_loadWe H 0 rfl rfl rfl Tryz.underlying41 rfl (by first | exact sz41 | (rw [sz41]; congr 1; first | omega | (simp [-List.reduceReplicate]; done) | (simp [-List.reduceReplicate]; omega) | (simp [*, -List.reduceReplicate]; done) | (simp [*, -List.reduceReplicate]; omega))) rfl) ?_
  simp only [N]
  refine wl_callFA H rfl (rc_go Tryz.func11 (by kernel_rfl) rfl) (movesF_spec p ab3 (by first | omega | (simp [-List.reduceReplicate]; done) | (simp [-List.reduceReplicate]; omega) | (simp [*, -List.reduceReplicate]; done) | (simp [*, -List.reduceReplicate]; omega)) _ (H.ro_at 0 rfl) (H.ro_at 2 rfl)) ?_
  clear H; intro x1_ w7 H
  simp only [N]
  have hcx1_0 : (movesF p ab3).length ≤ 140737488355328 := ((FreshAt.now (H.ro_at 0 rfl))).2.2.1
  refine wl_run rfl (rp_assign rfl (v := (⟨x1_.1, x1_.2, (movesF p ab3)⟩ : Sl Int).val) rfl) ?_
  simp only [N]
  refine wpList_nil ?_
  refine wp_seq ?_
  refine wp_seq ?_
  refine wp_region_lit ?_
  refine wl_run rfl (rp_move rfl (v := iv a7) rfl) ?_
  simp only [N]
  refine wl_run rfl (rp_int_neq rfl a7 (0 : Int) rfl rfl) ?_
  simp only [N]
  refine wl_run rfl (rp_move rfl (v := .bool (a7 != (0 : Int))) rfl) ?_
  simp only [N]
  refine wl_g (wn_f rfl rfl) (v := (⟨x1_.1, x1_.2, (movesF p ab3)⟩ : Sl Int).val) (fun hg => rp_move rfl (v := (⟨x1_.1, x1_.2, (movesF p ab3)⟩ : Sl Int).val) rfl) ?_
  simp only [N]
  refine wl_g (wn_f rfl rfl) (v := iv (((movesF p ab3).length : Nat) : Int)) (fun hg => by have x3 : a7 = (0 : Int) := (by simpa using (notT hg)); exact (by simp only [gv_t hg]; exact rp_len_sl (s := (⟨x1_.1, x1_.2, (movesF p ab3)⟩ : Sl Int)) Tryz.underlying44 rfl)) ?_
  simp only [N]
  refine wl_g (wn_f rfl rfl) (v := .bool ((((movesF p ab3).length : Nat) : Int) == (0 : Int))) (fun hg => by have x4 : a7 = (0 : Int) := (by simpa using (notT hg)); exact (by simp only [gv_t hg]; exact rp_int_eql rfl (((movesF p ab3).length : Nat) : Int) (0 : Int) rfl rfl)) ?_
  simp only [N]
  refine wl_run rfl (rp_pickO rfl (p := (a7 != (0 : Int))) (q := ((((movesF p ab3).length : Nat) : Int) == (0 : Int))) rfl rfl rfl) ?_
  simp only [N]
  refine wpList_nil ?_
  refine wp_cond_split rfl (fun hc2 => ?_) (fun hc2 => ?_)
  · --T 2
   refine wp_exit ?_
   refine wp_seq ?_
   refine wp_region_lit ?_
   refine wl_run rfl (rp_loadWe H 0 rfl rfl rfl Tryz.underlying41 rfl (by first | exact sz41 | (rw [sz41]; congr 1; first | omega | (simp [-List.reduceReplicate]; done) | (simp [-List.reduceReplicate]; omega) | (simp [*, -List.reduceReplicate]; done) | (simp [*, -List.reduceReplicate]; omega))) rfl) ?_
   simp only [N]
   refine wl_run rfl (rp_move rfl (v := iv a7) rfl) ?_
   simp only [N]
   refine wl_run rfl (rp_int_eql rfl a7 (0 : Int) rfl rfl) ?_
   simp only [N]
   refine wl_storeW H 1 rfl rfl rfl rfl (vs := (enc ab3).toArray) rfl (fun v hv => enc_one v (by simpa using hv)) (by first | (rw [sz41]; congr 1; done) | (rw [sz41]; congr 1; first | omega | (simp [-List.reduceReplicate]; done) | (simp [-List.reduceReplicate]; omega) | (simp [*, -List.reduceReplicate]; done) | (simp [*, -List.reduceReplicate]; omega))) (by first | omega | (simp [-List.reduceReplicate]; done) | (simp [-List.reduceReplicate]; omega) | (simp [*, -List.reduceReplicate]; done) | (simp [*, -List.reduceReplicate]; omega)) ?_
   clear H; intro w8 H; simp only [M] at H
   simp only [N]
   refine wl_run rfl (rp_assign rfl (v := .bool (a7 == (0 : Int))) rfl) ?_
   simp only [N]
   refine wpList_nil ?_
   refine wp_ret ?_
   try simp only [Exit.inBlock, Exit.then, cutP]
   refine bodyPost_ret (results2 rfl (rv_agg H 1 rfl rfl Tryz.underlying41 rfl (by first | exact sz41 | (rw [sz41]; congr 1; first | omega | (simp [-List.reduceReplicate]; done) | (simp [-List.reduceReplicate]; omega) | (simp [*, -List.reduceReplicate]; done) | (simp [*, -List.reduceReplicate]; omega)))) (rv_tmp rfl)) rfl ?_
   have hF : (behindF p picks.l) = (ab3, (a7 == (0 : Int))) := (hFa2).trans (bt hc2)
   rw [hF]
   exact ⟨rfl, H.ext⟩
  · --F 2
   have hc2N5 : a7 = (0 : Int) := (by simpa using (orl hc2))
   have hc2N6 : (((movesF p ab3).length : Nat) : Int) ≠ (0 : Int) := (by simpa using (orr hc2))
   refine wp_skip ?_
   refine wp_region_mix 12 H (by kernel_rfl) ?_
   refine wxl_take 0 rfl rfl (by kernel_rfl) (by kernel_rfl) (by kernel_rfl) (by kernel_rfl) (by kernel_rfl) (xy_run rfl (fun w H => rp_loadN H 2 rfl rfl rfl Tryz.underlying29 rfl sz29 (Nat.le_of_ble_eq_true rfl) (cs' := p.cells) rfl)) ?_
   simp only [N]
   refine wxl_take 1 rfl rfl (by kernel_rfl) (by kernel_rfl) (by kernel_rfl) (by kernel_rfl) (by kernel_rfl) (xy_run rfl (fun w H => rp_loadWe H 0 rfl rfl rfl Tryz.underlying41 rfl (by first | exact sz41 | (rw [sz41]; congr 1; first | omega | (simp [-List.reduceReplicate]; done) | (simp [-List.reduceReplicate]; omega) | (simp [*, -List.reduceReplicate]; done) | (simp [*, -List.reduceReplicate]; omega))) rfl)) ?_
   simp only [N]
   refine wxl_take 2 rfl rfl (by kernel_rfl) (by kernel_rfl) (by kernel_rfl) (by kernel_rfl) (by kernel_rfl) (xy_run rfl (fun w H => rp_move rfl (v := (⟨x1_.1, x1_.2, (movesF p ab3)⟩ : Sl Int).val) rfl)) ?_
   simp only [N]
   refine wxl_take 3 rfl rfl (by kernel_rfl) (by kernel_rfl) (by kernel_rfl) (by kernel_rfl) (by kernel_rfl) (xy_run rfl (fun w H => rp_move rfl (v := bv ((picks.l.take (min picks.l.length 40)).getD (a22) default)) rfl)) ?_
   simp only [N]
   refine wxl_take 4 rfl rfl (by kernel_rfl) (by kernel_rfl) (by kernel_rfl) (by kernel_rfl) (by kernel_rfl) (xy_run rfl (fun w H => rp_u8_to_int rfl Tryz.underlying5 Tryz.underlying3 ((picks.l.take (min picks.l.length 40)).getD (a22) default) rfl)) ?_
   simp only [N]
   refine wxl_take 5 rfl rfl (by kernel_rfl) (by kernel_rfl) (by kernel_rfl) (by kernel_rfl) (by kernel_rfl) (xy_run rfl (fun w H => rp_move rfl (v := (⟨x1_.1, x1_.2, (movesF p ab3)⟩ : Sl Int).val) rfl)) ?_
   simp only [N]
   refine wxl_take 6 rfl rfl (by kernel_rfl) (by kernel_rfl) (by kernel_rfl) (by kernel_rfl) (by kernel_rfl) (xy_run rfl (fun w H => rp_len_sl (s := (⟨x1_.1, x1_.2, (movesF p ab3)⟩ : Sl Int)) Tryz.underlying44 rfl)) ?_
   simp only [N]
   have hrem44 : ((((picks.l.take (min picks.l.length 40)).getD (a22) default)).toNat % (movesF p ab3).length) < (movesF p ab3).length := Nat.mod_lt _ (by omega)
   refine wxl_take 7 rfl rfl (by kernel_rfl) (by kernel_rfl) (by kernel_rfl) (by kernel_rfl) (by kernel_rfl) (xy_run rfl (fun w H => rp_int_rem rfl ((((picks.l.take (min picks.l.length 40)).getD (a22) default)).toNat) ((movesF p ab3).length) rfl rfl (by omega))) ?_
   simp only [N]
   refine wxl_take 8 rfl rfl (by kernel_rfl) (by kernel_rfl) (by kernel_rfl) (by kernel_rfl) (by kernel_rfl) (xy_run rfl (fun w H => rp_indexAddr_sl ((FreshAt.now ((H.ro_at 0 rfl)))) rfl Tryz.underlying44 sz3 rfl ((((picks.l.take (min picks.l.length 40)).getD (a22) default)).toNat % (movesF p ab3).length) rfl (by show _ < (movesF p ab3).length; omega))) ?_
   simp only [N]
   refine wxl_take 9 rfl rfl (by kernel_rfl) (by kernel_rfl) (by kernel_rfl) (by kernel_rfl) (by kernel_rfl) (xy_run rfl (fun w H => rp_load1_sl ((FreshAt.now ((H.ro_at 0 rfl)))) (((((picks.l.take (min picks.l.length 40)).getD (a22) default)).toNat % (movesF p ab3).length)) (by show _ < (movesF p ab3).length; omega) rfl Tryz.underlying3 rfl 0 rfl (by omega) (v := iv ((movesF p ab3).getD (((((picks.l.take (min picks.l.length 40)).getD (a22) default)).toNat % (movesF p ab3).length)) default)) rfl)) ?_
   simp only [N]
   refine wxl_take 10 rfl rfl (by kernel_rfl) (by kernel_rfl) (by kernel_rfl) (by kernel_rfl) (by kernel_rfl) (xy_call rfl (rc_go Tryz.func14 (by kernel_rfl) rfl) (fun w H => moveF_spec p ab3 ((movesF p ab3).getD (((((picks.l.take (min picks.l.length 40)).getD (a22) default)).toNat % (movesF p ab3).length)) default) (by first | omega | (simp [-List.reduceReplicate]; done) | (simp [-List.reduceReplicate]; omega) | (simp [*, -List.reduceReplicate]; done) | (simp [*, -List.reduceReplicate]; omega)) _ (H.ro_at 1 rfl) (H.ro_at 3 rfl))) ?_
   simp only [N]
   generalize hv47 : (moveF p ab3 ((movesF p ab3).getD (((((picks.l.take (min picks.l.length 40)).getD (a22) default)).toNat % (movesF p ab3).length)) default)) = v47
   have hFv47 : (behindF p picks.l) = behindF_v47 ra v47 := by first | (rw [← hv47]; exact (hFa2).trans (bf hc2)) | exact (hFa2).trans (bf hc2)
   have hlv47 : (v47.1).length = 142 := by rw [← hv47]; first | omega | (simp [-List.reduceReplicate]; done) | (simp [-List.reduceReplicate]; omega) | (simp [*, -List.reduceReplicate]; done) | (simp [*, -List.reduceReplicate]; omega)
   refine wxl_take 11 rfl rfl (by kernel_rfl) (by kernel_rfl) (by kernel_rfl) (by kernel_rfl) (by kernel_rfl) (xy_run rfl (fun w H => rp_move rfl (v := .tuple #[.agg (enc v47.1).toArray, iv v47.2]) rfl)) ?_
   simp only [N]
   refine wa_any (by kernel_rfl) (by kernel_rfl) ?_
   clear H; intro w9 H; simp only [List.cons_append, List.nil_append] at H
   refine wa_2 12 13 rfl rfl (by kernel_rfl) ?_ ?_
   ·
    refine wl_run rfl (rp_extract rfl rfl (v := .agg (enc v47.1).toArray) rfl) ?_
    simp only [N]
    refine wpList_nil ?_
    refine wa_2 13 14 rfl rfl (by kernel_rfl) ?_ ?_
    ·
     refine wl_run rfl (rp_extract rfl rfl (v := iv v47.2) rfl) ?_
     simp only [N]
     refine wpList_nil ?_
     refine wa_tail 14 _ rfl rfl (by kernel_rfl) ?_
     refine wl_storeW H 0 rfl rfl rfl rfl (vs := (enc v47.1).toArray) rfl (fun v hv => enc_one v (by simpa using hv)) (by first | (rw [sz41]; congr 1; done) | (rw [sz41]; congr 1; first | omega | (simp [-List.reduceReplicate]; done) | (simp [-List.reduceReplicate]; omega) | (simp [*, -List.reduceReplicate]; done) | (simp [*, -List.reduceReplicate]; omega))) (by first | omega | (simp [-List.reduceReplicate]; done) | (simp [-List.reduceReplicate]; omega) | (simp [*, -List.reduceReplicate]; done) | (simp [*, -List.reduceReplicate]; omega)) ?_
     clear H; intro w10 H; simp only [M] at H
     simp only [N]
     refine wl_run rfl (rp_assign rfl (v := iv v47.2) rfl) ?_
     simp only [N]
     refine wpList_nil ?_
     refine wp_region_lit ?_
     refine wl_run rfl (rp_int_add rfl ((a22 : Nat) : Int) (1 : Int) rfl rfl (by omega)) ?_
     simp only [N]
     refine wl_run rfl (rp_move rfl (v := iv (((a22 : Nat) : Int) + (1 : Int))) rfl) ?_
     simp only [N]
     refine wpList_nil ?_
     replace H := H.facts (R' := [IsProg p, SlIn 1 eByte picks, Glob]) (by first | exact fun _ h => h | simp)
     show ∃ n', n' < _ ∧ _
     refine ⟨_, ?_, v47.2, (a22 + 1), v47.1, (by kernel_rfl), H, (by first | omega | (simp [-List.reduceReplicate]; done) | (simp [-List.reduceReplicate]; omega) | (simp [*, -List.reduceReplicate]; done) | (simp [*, -List.reduceReplicate]; omega)), (by omega), (hFv47).trans (congrFun hra _), rfl⟩
     omega
    ·
     refine wl_storeW H 0 rfl rfl rfl rfl (vs := (enc v47.1).toArray) rfl (fun v hv => enc_one v (by simpa using hv)) (by first | (rw [sz41]; congr 1; done) | (rw [sz41]; congr 1; first | omega | (simp [-List.reduceReplicate]; done) | (simp [-List.reduceReplicate]; omega) | (simp [*, -List.reduceReplicate]; done) | (simp [*, -List.reduceReplicate]; omega))) (by first | omega | (simp [-List.reduceReplicate]; done) | (simp [-List.reduceReplicate]; omega) | (simp [*, -List.reduceReplicate]; done) | (simp [*, -List.reduceReplicate]; omega)) ?_
     clear H; intro w11 H; simp only [M] at H
     simp only [N]
     refine wpList_nil ?_
     refine wa_1 13 rfl (by kernel_rfl) ?_
     refine wl_run rfl (rp_extract rfl rfl (v := iv v47.2) rfl) ?_
     simp only [N]
     refine wpList_nil ?_
     refine wa_tail 15 _ rfl rfl (by kernel_rfl) ?_
     refine wl_run rfl (rp_assign rfl (v := iv v47.2) rfl) ?_
     simp only [N]
     refine wpList_nil ?_
     refine wp_region_lit ?_
     refine wl_run rfl (rp_int_add rfl ((a22 : Nat) : Int) (1 : Int) rfl rfl (by omega)) ?_
     simp only [N]
     refine wl_run rfl (rp_move rfl (v := iv (((a22 : Nat) : Int) + (1 : Int))) rfl) ?_
     simp only [N]
     refine wpList_nil ?_
     replace H := H.facts (R' := [IsProg p, SlIn 1 eByte picks, Glob]) (by first | exact fun _ h => h | simp)
     show ∃ n', n' < _ ∧ _
     refine ⟨_, ?_, v47.2, (a22 + 1), v47.1, (by kernel_rfl), H, (by first | omega | (simp [-List.reduceReplicate]; done) | (simp [-List.reduceReplicate]; omega) | (simp [*, -List.reduceReplicate]; done) | (simp [*, -List.reduceReplicate]; omega)), (by omega), (hFv47).trans (congrFun hra _), rfl⟩
     omega
   ·
    refine wl_run rfl (rp_extract rfl rfl (v := iv v47.2) rfl) ?_
    simp only [N]
    refine wpList_nil ?_
    refine wa_1 12 rfl (by kernel_rfl) ?_
    refine wl_run rfl (rp_extract rfl rfl (v := .agg (enc v47.1).toArray) rfl) ?_
    simp only [N]
    refine wpList_nil ?_
    refine wa_tail 14 _ rfl rfl (by kernel_rfl) ?_
    refine wl_storeW H 0 rfl rfl rfl rfl (vs := (enc v47.1).toArray) rfl (fun v hv => enc_one v (by simpa using hv)) (by first | (rw [sz41]; congr 1; done) | (rw [sz41]; congr 1; first | omega | (simp [-List.reduceReplicate]; done) | (simp [-List.reduceReplicate]; omega) | (simp [*, -List.reduceReplicate]; done) | (simp [*, -List.reduceReplicate]; omega))) (by first | omega | (simp [-List.reduceReplicate]; done) | (simp [-List.reduceReplicate]; omega) | (simp [*, -List.reduceReplicate]; done) | (simp [*, -List.reduceReplicate]; omega)) ?_
    clear H; intro w12 H; simp only [M] at H
    simp only [N]
    refine wl_run rfl (rp_assign rfl (v := iv v47.2) rfl) ?_
    simp only [N]
    refine wpList_nil ?_
    refine wp_region_lit ?_
    refine wl_run rfl (rp_int_add rfl ((a22 : Nat) : Int) (1 : Int) rfl rfl (by omega)) ?_
    simp only [N]
    refine wl_run rfl (rp_move rfl (v := iv (((a22 : Nat) : Int) + (1 : Int))) rfl) ?_
    simp only [N]
    refine wpList_nil ?_
    replace H := H.facts (R' := [IsProg p, SlIn 1 eByte picks, Glob]) (by first | exact fun _ h => h | simp)
    show ∃ n', n' < _ ∧ _
    refine ⟨_, ?_, v47.2, (a22 + 1), v47.1, (by kernel_rfl), H, (by first | omega | (simp [-List.reduceReplicate]; done) | (simp [-List.reduceReplicate]; omega) | (simp [*, -List.reduceReplicate]; done) | (simp [*, -List.reduceReplicate]; omega)), (by omega), (hFv47).trans (congrFun hra _), rfl⟩
    omega
 · --F 1
  have hc1N7 : (((picks.l.take (min picks.l.length 40)).length : Nat) : Int) ≤ ((a22 : Nat) : Int) := (by simpa using hc1)
  have hFa2 := hFa.trans (loopL_end (show (picks.l.take (min picks.l.length 40)).length ≤ a22 by omega))
  refine wp_exit ?_
  refine wp_seq ?_
  refine wp_region_lit ?_
  refine wl_run rfl (rp_loadWe H 0 rfl rfl rfl Tryz.underlying41 rfl (by first | exact sz41 | (rw [sz41]; congr 1; first | omega | (simp [-List.reduceReplicate]; done) | (simp [-List.reduceReplicate]; omega) | (simp [*, -List.reduceReplicate]; done) | (simp [*, -List.reduceReplicate]; omega))) rfl) ?_
  simp only [N]
  refine wl_run rfl (rp_move rfl (v := iv a7) rfl) ?_
  simp only [N]
  refine wl_run rfl (rp_int_eql rfl a7 (0 : Int) rfl rfl) ?_
  simp only [N]
  refine wl_storeW H 1 rfl rfl rfl rfl (vs := (enc ab3).toArray) rfl (fun v hv => enc_one v (by simpa using hv)) (by first | (rw [sz41]; congr 1; done) | (rw [sz41]; congr 1; first | omega | (simp [-List.reduceReplicate]; done) | (simp [-List.reduceReplicate]; omega) | (simp [*, -List.reduceReplicate]; done) | (simp [*, -List.reduceReplicate]; omega))) (by first | omega | (simp [-List.reduceReplicate]; done) | (simp [-List.reduceReplicate]; omega) | (simp [*, -List.reduceReplicate]; done) | (simp [*, -List.reduceReplicate]; omega)) ?_
  clear H; intro w13 H; simp only [M] at H
  simp only [N]
  refine wl_run rfl (rp_assign rfl (v := .bool (a7 == (0 : Int))) rfl) ?_
  simp only [N]
  refine wpList_nil ?_
  refine wp_ret ?_
  try simp only [Exit.inBlock, Exit.then, cutP]
  refine bodyPost_ret (results2 rfl (rv_agg H 1 rfl rfl Tryz.underlying41 rfl (by first | exact sz41 | (rw [sz41]; congr 1; first | omega | (simp [-List.reduceReplicate]; done) | (simp [-List.reduceReplicate]; omega) | (simp [*, -List.reduceReplicate]; done) | (simp [*, -List.reduceReplicate]; omega)))) (rv_tmp rfl)) rfl ?_
  have hF : (behindF p picks.l) = (ab3, (a7 == (0 : Int))) := hFa2
  rw [hF]
  exact ⟨rfl, H.ext⟩

end Go.Proofs.YtpnaooajmdildaaGreatDoor
