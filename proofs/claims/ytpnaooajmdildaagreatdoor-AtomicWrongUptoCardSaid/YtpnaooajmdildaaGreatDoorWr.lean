/- Walks, printed by a program of this repository (wip/tool). -/
import Derived.Test.YtpnaooajmdildaaGreatDoorBe
import Derived.Test.YtpnaooajmdildaaGreatDoorSL
namespace Go.Proofs.YtpnaooajmdildaaGreatDoor
open Go.RowKit
open Go
attribute [local irreducible] wpList wpQuiet wpX Code.wp
set_option maxHeartbeats 1000000
set_option maxRecDepth 100000
set_option linter.unusedSimpArgs false
set_option linter.unusedVariables false

def wrongF_v36 (p : Prog) (v36 : (List UInt8) × Int) : Bool :=
  bif (((((startF p).2 == (2 : Int)) && ((rightF p) != (0 : Int))) && ((playF p ([])).2.2 == (startF p).2)) && (v36.2 == (startF p).2)) then (((((((((playF p ([])).2.1.length : Nat) : Int) + (((movesF p ((startF p).1)).length : Nat) : Int)) == (0 : Int)) && (!(aRightF p ((startF p).1)))) && (!(overF p ((startF p).1)))) && true)) else false
def wrongF_a (p : Prog) (t : Int) (ab2 : List UInt8) : Bool :=
  bif (!(aRightF p ab2)) then (((((((((movesF p ab2).length : Nat) : Int) == (0 : Int)) && ((moveF p ab2 t).2 == (2 : Int))) && (decide ((moveF p ab2 t).1 = (List.replicate 142 (0 : UInt8))))) && (!(overF p ab2))) && true)) else false
def wrongF (p : Prog) (what : UInt8) (much : UInt8) (t : Int) : Bool :=
  bif ((startF p).2 != (0 : Int)) then (wrongF_v36 p (moveF p ((startF p).1) t)) else (bif ((what % (4 : UInt8)) == (0 : UInt8)) then (wrongF_a p t ((startF p).1.set (0) (((UInt8.ofNat ((((p.threads.l.getD (0) default).l.length : Nat) : Int) % 256).toNat) + ((if much < (1 : UInt8) then (1 : UInt8) else much) % (100 : UInt8))) + (1 : UInt8)))) else (bif ((what % (4 : UInt8)) == (1 : UInt8)) then (bif (((p.threads.l.length : Nat) : Int) == (4 : Int)) then true else (wrongF_a p t ((startF p).1.set (28 + ((much % (8 : UInt8))).toNat) (if much < (1 : UInt8) then (1 : UInt8) else much)))) else (bif ((what % (4 : UInt8)) == (2 : UInt8)) then (bif (((p.locs.l.length : Nat) : Int) == (6 : Int)) then true else (wrongF_a p t ((startF p).1.set (41) (if much < (1 : UInt8) then (1 : UInt8) else much)))) else (wrongF_a p t ((startF p).1.set (42 + ((much % (4 : UInt8))).toNat * 24 + ((much % (12 : UInt8))).toNat * 2 + 1) (if much < (1 : UInt8) then (1 : UInt8) else much))))))


theorem wrongF_spec (p : Prog) (what : UInt8) (much : UInt8) (t : Int) (w : World) (hp : (IsProg p) w) (hg_ : (Glob) w) :
    Calls Tryz.prog 8 #[.agg p.cells.toArray, bv what, bv much, iv t] w fun e w' => e = .returned (.bool ((wrongF p what much t))) ∧ Ext w w' := by
 have H := Own.start_ro w [IsProg p, Glob] (List.forall_mem_cons.2 ⟨fun w' hw => hp.keep hw, List.forall_mem_cons.2 ⟨fun w' hw => hg_.keep hw, fun _ h => by cases h⟩⟩)
 have hcp1 := hp.locs.2.2
 have hcp2 := hp.init.2.2
 have hcp3 := hp.threads.2.2
 go_enter Tryz.func8, Tryz.ntmps8
 refine wp_seq ?_
 refine wp_region_lit ?_
 refine wl_box H rfl rfl (v := .agg (p.cells).toArray) rfl ?_
 clear H; intro b1 w1 hnb1 H; dsimp only [Value.cells] at H
 simp only [N]
 refine wl_run rfl (rp_assign rfl (v := .bool false) rfl) ?_
 simp only [N]
 refine wpList_nil ?_
 refine wp_seq ?_
 refine wp_region_lit ?_
 refine wl_run rfl (rp_loadN H 0 rfl rfl rfl Tryz.underlying29 rfl sz29 (Nat.le_of_ble_eq_true rfl) (cs' := p.cells) rfl) ?_
 simp only [N]
 refine wl_callE H rfl (rc_go Tryz.func19 (by kernel_rfl) rfl) (startF_spec p _ (H.ro_at 0 rfl) (H.ro_at 1 rfl)) ?_
 clear H; intro w2 H
 simp only [N]
 refine wl_run rfl (rp_move rfl (v := .tuple #[.agg (enc (startF p).1).toArray, iv (startF p).2]) rfl) ?_
 simp only [N]
 refine wl_run rfl (rp_extract rfl rfl (v := .agg (enc (startF p).1).toArray) rfl) ?_
 simp only [N]
 refine wl_run rfl (rp_extract rfl rfl (v := iv (startF p).2) rfl) ?_
 simp only [N]
 refine wl_alloc H rfl rfl zv41 ?_
 clear H; intro b2 w3 hnb2 H; dsimp only [Value.cells] at H
 simp only [N]
 simp only [enc_replicate] at H
 refine wl_storeW H 0 rfl rfl rfl rfl (vs := (enc (startF p).1).toArray) rfl (fun v hv => enc_one v (by simpa using hv)) (by first | (rw [sz41]; congr 1; done) | (rw [sz41]; congr 1; first | omega | (simp [-List.reduceReplicate]; done) | (simp [-List.reduceReplicate]; omega) | (simp [*, -List.reduceReplicate]; done) | (simp [*, -List.reduceReplicate]; omega))) (by first | omega | (simp [-List.reduceReplicate]; done) | (simp [-List.reduceReplicate]; omega) | (simp [*, -List.reduceReplicate]; done) | (simp [*, -List.reduceReplicate]; omega)) ?_
 clear H; intro w4 H; simp only [M] at H
 simp only [N]
 refine wl_run rfl (rp_assign rfl (v := iv (startF p).2) rfl) ?_
 simp only [N]
 refine wpList_nil ?_
 refine wp_seq ?_
 refine wp_seq ?_
 refine wp_region_lit ?_
 refine wl_run rfl (rp_move rfl (v := iv (startF p).2) rfl) ?_
 simp only [N]
 refine wl_run rfl (rp_int_neq rfl (startF p).2 (0 : Int) rfl rfl) ?_
 simp only [N]
 refine wpList_nil ?_
 refine wp_cond_split rfl (fun hc1 => ?_) (fun hc1 => ?_)
 · --T 1
  have hc1N1 : (startF p).2 ≠ (0 : Int) := (by simpa using hc1)
  refine wp_seq ?_
  refine wp_region_lit ?_
  refine wl_run rfl (rp_loadN H 1 rfl rfl rfl Tryz.underlying29 rfl sz29 (Nat.le_of_ble_eq_true rfl) (cs' := p.cells) rfl) ?_
  simp only [N]
  refine wl_callFA H rfl (rc_go Tryz.func18 (by kernel_rfl) rfl) (playF_spec p (⟨none, 0, []⟩ : Sl UInt8) _ (H.ro_at 0 rfl) (slin_nil eByteN) (H.ro_at 1 rfl)) ?_
  clear H; intro x1_ w5 H
  simp only [N]
  have hcx1_0 : ((playF p ([])).2.1).length ≤ 140737488355328 := ((FreshAt.now (H.ro_at 0 rfl))).2.2.1
  refine wl_run rfl (rp_move rfl (v := .tuple #[.agg (enc (playF p ([])).1).toArray, (⟨x1_.1, x1_.2, (playF p ([])).2.1⟩ : Sl Int).val, iv (playF p ([])).2.2]) rfl) ?_
  simp only [N]
  refine wl_run rfl (rp_extract rfl rfl (v := .agg (enc (playF p ([])).1).toArray) rfl) ?_
  simp only [N]
  refine wl_run rfl (rp_extract rfl rfl (v := (⟨x1_.1, x1_.2, (playF p ([])).2.1⟩ : Sl Int).val) rfl) ?_
  simp only [N]
  refine wl_run rfl (rp_extract rfl rfl (v := iv (playF p ([])).2.2) rfl) ?_
  simp only [N]
  refine wl_alloc H rfl rfl zv65 ?_
  clear H; intro b3 w6 hnb3 H; dsimp only [Value.cells] at H
  simp only [N]
  simp only [enc_replicate] at H
  refine wl_storeW H 0 rfl rfl rfl rfl (vs := (enc (playF p ([])).1).toArray) rfl (fun v hv => enc_one v (by simpa using hv)) (by first | (rw [sz65]; congr 1; done) | (rw [sz65]; congr 1; first | omega | (simp [-List.reduceReplicate]; done) | (simp [-List.reduceReplicate]; omega) | (simp [*, -List.reduceReplicate]; done) | (simp [*, -List.reduceReplicate]; omega))) (by first | omega | (simp [-List.reduceReplicate]; done) | (simp [-List.reduceReplicate]; omega) | (simp [*, -List.reduceReplicate]; done) | (simp [*, -List.reduceReplicate]; omega)) ?_
  clear H; intro w7 H; simp only [M] at H
  simp only [N]
  refine wl_run rfl (rp_assign rfl (v := (⟨x1_.1, x1_.2, (playF p ([])).2.1⟩ : Sl Int).val) rfl) ?_
  simp only [N]
  refine wl_run rfl (rp_assign rfl (v := iv (playF p ([])).2.2) rfl) ?_
  simp only [N]
  refine wpList_nil ?_
  refine wp_seq ?_
  refine wp_region_lit ?_
  refine wl_run rfl (rp_loadN H 2 rfl rfl rfl Tryz.underlying29 rfl sz29 (Nat.le_of_ble_eq_true rfl) (cs' := p.cells) rfl) ?_
  simp only [N]
  refine wl_run rfl (rp_loadWe H 1 rfl rfl rfl Tryz.underlying41 rfl (by first | exact sz41 | (rw [sz41]; congr 1; first | omega | (simp [-List.reduceReplicate]; done) | (simp [-List.reduceReplicate]; omega) | (simp [*, -List.reduceReplicate]; done) | (simp [*, -List.reduceReplicate]; omega))) rfl) ?_
  simp only [N]
  refine wl_run rfl (rp_move rfl (v := iv t) rfl) ?_
  simp only [N]
  refine wl_callE H rfl (rc_go Tryz.func14 (by kernel_rfl) rfl) (moveF_spec p ((startF p).1) t (by first | omega | (simp [-List.reduceReplicate]; done) | (simp [-List.reduceReplicate]; omega) | (simp [*, -List.reduceReplicate]; done) | (simp [*, -List.reduceReplicate]; omega)) _ (H.ro_at 1 rfl) (H.ro_at 2 rfl)) ?_
  clear H; intro w8 H
  simp only [N]
  generalize hv36 : (moveF p ((startF p).1) t) = v36
  have hFv36 : (wrongF p what much t) = wrongF_v36 p v36 := by first | (rw [← hv36]; exact bt hc1) | exact bt hc1
  have hlv36 : (v36.1).length = 142 := by rw [← hv36]; first | omega | (simp [-List.reduceReplicate]; done) | (simp [-List.reduceReplicate]; omega) | (simp [*, -List.reduceReplicate]; done) | (simp [*, -List.reduceReplicate]; omega)
  refine wl_run rfl (rp_move rfl (v := .tuple #[.agg (enc v36.1).toArray, iv v36.2]) rfl) ?_
  simp only [N]
  refine wl_run rfl (rp_extract rfl rfl (v := .agg (enc v36.1).toArray) rfl) ?_
  simp only [N]
  refine wl_run rfl (rp_extract rfl rfl (v := iv v36.2) rfl) ?_
  simp only [N]
  refine wl_alloc H rfl rfl zv41 ?_
  clear H; intro b4 w9 hnb4 H; dsimp only [Value.cells] at H
  simp only [N]
  simp only [enc_replicate] at H
  refine wl_storeW H 0 rfl rfl rfl rfl (vs := (enc v36.1).toArray) rfl (fun v hv => enc_one v (by simpa using hv)) (by first | (rw [sz41]; congr 1; done) | (rw [sz41]; congr 1; first | omega | (simp [-List.reduceReplicate]; done) | (simp [-List.reduceReplicate]; omega) | (simp [*, -List.reduceReplicate]; done) | (simp [*, -List.reduceReplicate]; omega))) (by first | omega | (simp [-List.reduceReplicate]; done) | (simp [-List.reduceReplicate]; omega) | (simp [*, -List.reduceReplicate]; done) | (simp [*, -List.reduceReplicate]; omega)) ?_
  clear H; intro w10 H; simp only [M] at H
  simp only [N]
  refine wl_run rfl (rp_assign rfl (v := iv v36.2) rfl) ?_
  simp only [N]
  refine wpList_nil ?_
  refine wp_seq ?_
  refine wp_region_lit ?_
  refine wl_run rfl (rp_move rfl (v := iv (startF p).2) rfl) ?_
  simp only [N]
  refine wl_run rfl (rp_int_eql rfl (startF p).2 (2 : Int) rfl rfl) ?_
  simp only [N]
  refine wl_run rfl (rp_move rfl (v := .bool ((startF p).2 == (2 : Int))) rfl) ?_
  simp only [N]
  refine wl_g (wn_t rfl rfl) (v := .agg (p.cells).toArray) (fun hg => rp_loadN H 3 rfl rfl rfl Tryz.underlying29 rfl sz29 (Nat.le_of_ble_eq_true rfl) (cs' := p.cells) rfl) ?_
  simp only [N]
  refine wl_gE H (wn_t rfl rfl) (fun hg => fun w => by simp only [gv_t hg]; exact rc_go Tryz.func12 (by kernel_rfl) rfl w) (v := iv (rightF p)) (fun hg => by have x3 : (startF p).2 = (2 : Int) := (by simpa using hg); exact (rightF_spec p _ (H.ro_at 1 rfl) (H.ro_at 2 rfl))) ?_
  clear H; intro w11 H
  simp only [N]
  refine wl_g (wn_t rfl rfl) (v := .bool ((rightF p) != (0 : Int))) (fun hg => by have x4 : (startF p).2 = (2 : Int) := (by simpa using hg); exact (by simp only [gv_t hg]; exact rp_int_neq rfl (rightF p) (0 : Int) rfl rfl)) ?_
  simp only [N]
  refine wl_run rfl (rp_pickA rfl (p := ((startF p).2 == (2 : Int))) (q := ((rightF p) != (0 : Int))) rfl rfl rfl) ?_
  simp only [N]
  refine wl_run rfl (rp_move rfl (v := .bool (((startF p).2 == (2 : Int)) && ((rightF p) != (0 : Int)))) rfl) ?_
  simp only [N]
  refine wl_g (wn_t rfl rfl) (v := iv (playF p ([])).2.2) (fun hg => rp_move rfl (v := iv (playF p ([])).2.2) rfl) ?_
  simp only [N]
  refine wl_g (wn_t rfl rfl) (v := iv (startF p).2) (fun hg => rp_move rfl (v := iv (startF p).2) rfl) ?_
  simp only [N]
  refine wl_g (wn_t rfl rfl) (v := .bool ((playF p ([])).2.2 == (startF p).2)) (fun hg => by have x9 : (startF p).2 = (2 : Int) := (by simpa using (andl hg)); have x10 : (rightF p) ≠ (0 : Int) := (by simpa using (andr hg)); exact (by simp only [gv_t hg]; exact rp_int_eql rfl (playF p ([])).2.2 (startF p).2 rfl rfl)) ?_
  simp only [N]
  refine wl_run rfl (rp_pickA rfl (p := (((startF p).2 == (2 : Int)) && ((rightF p) != (0 : Int)))) (q := ((playF p ([])).2.2 == (startF p).2)) rfl rfl rfl) ?_
  simp only [N]
  refine wl_run rfl (rp_move rfl (v := .bool ((((startF p).2 == (2 : Int)) && ((rightF p) != (0 : Int))) && ((playF p ([])).2.2 == (startF p).2))) rfl) ?_
  simp only [N]
  refine wl_g (wn_t rfl rfl) (v := iv v36.2) (fun hg => rp_move rfl (v := iv v36.2) rfl) ?_
  simp only [N]
  refine wl_g (wn_t rfl rfl) (v := iv (startF p).2) (fun hg => rp_move rfl (v := iv (startF p).2) rfl) ?_
  simp only [N]
  refine wl_g (wn_t rfl rfl) (v := .bool (v36.2 == (startF p).2)) (fun hg => by have x17 : (startF p).2 = (2 : Int) := (by simpa using (andl (andl hg))); have x18 : (rightF p) ≠ (0 : Int) := (by simpa using (andr (andl hg))); have x19 : (playF p ([])).2.2 = (startF p).2 := (by simpa using (andr hg)); exact (by simp only [gv_t hg]; exact rp_int_eql rfl v36.2 (startF p).2 rfl rfl)) ?_
  simp only [N]
  refine wl_run rfl (rp_pickA rfl (p := ((((startF p).2 == (2 : Int)) && ((rightF p) != (0 : Int))) && ((playF p ([])).2.2 == (startF p).2))) (q := (v36.2 == (startF p).2)) rfl rfl rfl) ?_
  simp only [N]
  refine wl_run rfl (rp_move rfl (v := .bool (((((startF p).2 == (2 : Int)) && ((rightF p) != (0 : Int))) && ((playF p ([])).2.2 == (startF p).2)) && (v36.2 == (startF p).2))) rfl) ?_
  simp only [N]
  refine wl_g (wn_t rfl rfl) (v := (⟨x1_.1, x1_.2, (playF p ([])).2.1⟩ : Sl Int).val) (fun hg => rp_move rfl (v := (⟨x1_.1, x1_.2, (playF p ([])).2.1⟩ : Sl Int).val) rfl) ?_
  simp only [N]
  refine wl_g (wn_t rfl rfl) (v := iv (((playF p ([])).2.1.length : Nat) : Int)) (fun hg => by have x24 : (startF p).2 = (2 : Int) := (by simpa using (andl (andl (andl hg)))); have x25 : (rightF p) ≠ (0 : Int) := (by simpa using (andr (andl (andl hg)))); have x26 : (playF p ([])).2.2 = (startF p).2 := (by simpa using (andr (andl hg))); have x27 : v36.2 = (startF p).2 := (by simpa using (andr hg)); exact (by simp only [gv_t hg]; exact rp_len_sl (s := (⟨x1_.1, x1_.2, (playF p ([])).2.1⟩ : Sl Int)) Tryz.underlying44 rfl)) ?_
  simp only [N]
  refine wl_g (wn_t rfl rfl) (v := .agg (p.cells).toArray) (fun hg => rp_loadN H 3 rfl rfl rfl Tryz.underlying29 rfl sz29 (Nat.le_of_ble_eq_true rfl) (cs' := p.cells) rfl) ?_
  simp only [N]
  refine wl_g (wn_t rfl rfl) (v := .agg (enc (startF p).1).toArray) (fun hg => rp_loadWe H 2 rfl rfl rfl Tryz.underlying41 rfl (by first | exact sz41 | (rw [sz41]; congr 1; first | omega | (simp [-List.reduceReplicate]; done) | (simp [-List.reduceReplicate]; omega) | (simp [*, -List.reduceReplicate]; done) | (simp [*, -List.reduceReplicate]; omega))) rfl) ?_
  simp only [N]
  rcases Bool.eq_false_or_eq_true (((((startF p).2 == (2 : Int)) && ((rightF p) != (0 : Int))) && ((playF p ([])).2.2 == (startF p).2)) && (v36.2 == (startF p).2)) with hg1 | hg1
  · --true
   have x40 : (startF p).2 = (2 : Int) := (by simpa using (andl (andl (andl hg1))))
   have x41 : (rightF p) ≠ (0 : Int) := (by simpa using (andr (andl (andl hg1))))
   have x42 : (playF p ([])).2.2 = (startF p).2 := (by simpa using (andr (andl hg1)))
   have x43 : v36.2 = (startF p).2 := (by simpa using (andr hg1))
   simp only [(andl (andl (andl hg1))), gv_t (andl (andl (andl hg1))), (andl (andl hg1)), gv_t (andl (andl hg1)), (andl hg1), gv_t (andl hg1), hg1, gv_t hg1, (andr (andl (andl hg1))), (andr (andl hg1)), (andr hg1), Bool.true_and, Bool.and_true]
   refine wl_callFA H rfl (rc_go Tryz.func11 (by kernel_rfl) rfl) (movesF_spec p ((startF p).1) (by first | omega | (simp [-List.reduceReplicate]; done) | (simp [-List.reduceReplicate]; omega) | (simp [*, -List.reduceReplicate]; done) | (simp [*, -List.reduceReplicate]; omega)) _ (H.ro_at 1 rfl) (H.ro_at 2 rfl)) ?_
   clear H; intro x3_ w12 H
   simp only [N]
   have hcx3_0 : (movesF p ((startF p).1)).length ≤ 140737488355328 := ((FreshAt.now (H.ro_at 0 rfl))).2.2.1
   refine wl_run rfl (rp_len_sl (s := (⟨x3_.1, x3_.2, (movesF p ((startF p).1))⟩ : Sl Int)) Tryz.underlying44 rfl) ?_
   simp only [N]
   refine wl_run rfl (rp_int_add rfl (((playF p ([])).2.1.length : Nat) : Int) (((movesF p ((startF p).1)).length : Nat) : Int) rfl rfl (by omega)) ?_
   simp only [N]
   refine wl_run rfl (rp_int_eql rfl ((((playF p ([])).2.1.length : Nat) : Int) + (((movesF p ((startF p).1)).length : Nat) : Int)) (0 : Int) rfl rfl) ?_
   simp only [N]
   refine wl_run rfl (rp_pickT rfl rfl (u := .bool (((((playF p ([])).2.1.length : Nat) : Int) + (((movesF p ((startF p).1)).length : Nat) : Int)) == (0 : Int))) rfl) ?_
   simp only [N]
   refine wl_run rfl (rp_move rfl (v := .bool (((((playF p ([])).2.1.length : Nat) : Int) + (((movesF p ((startF p).1)).length : Nat) : Int)) == (0 : Int))) rfl) ?_
   simp only [N]
   refine wl_g (wn_t rfl rfl) (v := .agg (p.cells).toArray) (fun hg => rp_loadN H 3 rfl rfl rfl Tryz.underlying29 rfl sz29 (Nat.le_of_ble_eq_true rfl) (cs' := p.cells) rfl) ?_
   simp only [N]
   refine wl_g (wn_t rfl rfl) (v := .agg (enc (startF p).1).toArray) (fun hg => rp_loadWe H 2 rfl rfl rfl Tryz.underlying41 rfl (by first | exact sz41 | (rw [sz41]; congr 1; first | omega | (simp [-List.reduceReplicate]; done) | (simp [-List.reduceReplicate]; omega) | (simp [*, -List.reduceReplicate]; done) | (simp [*, -List.reduceReplicate]; omega))) rfl) ?_
   simp only [N]
   refine wl_gE H (wn_t rfl rfl) (fun hg => fun w => by simp only [gv_t hg]; exact rc_go Tryz.func26 (by kernel_rfl) rfl w) (v := .bool (aRightF p ((startF p).1))) (fun hg => by have x46 : ((((playF p ([])).2.1.length : Nat) : Int) + (((movesF p ((startF p).1)).length : Nat) : Int)) = (0 : Int) := (by simpa using hg); exact (aRightF_spec p ((startF p).1) (by first | omega | (simp [-List.reduceReplicate]; done) | (simp [-List.reduceReplicate]; omega) | (simp [*, -List.reduceReplicate]; done) | (simp [*, -List.reduceReplicate]; omega)) _ (H.ro_at 2 rfl) (H.ro_at 3 rfl))) ?_
   clear H; intro w13 H
   simp only [N]
   refine wl_g (wn_t rfl rfl) (v := .bool (!(aRightF p ((startF p).1)))) (fun hg => by have x47 : ((((playF p ([])).2.1.length : Nat) : Int) + (((movesF p ((startF p).1)).length : Nat) : Int)) = (0 : Int) := (by simpa using hg); exact (by simp only [gv_t hg]; exact rp_not rfl (aRightF p ((startF p).1)) rfl)) ?_
   simp only [N]
   refine wl_run rfl (rp_pickA rfl (p := (((((playF p ([])).2.1.length : Nat) : Int) + (((movesF p ((startF p).1)).length : Nat) : Int)) == (0 : Int))) (q := (!(aRightF p ((startF p).1)))) rfl rfl rfl) ?_
   simp only [N]
   refine wl_run rfl (rp_move rfl (v := .bool ((((((playF p ([])).2.1.length : Nat) : Int) + (((movesF p ((startF p).1)).length : Nat) : Int)) == (0 : Int)) && (!(aRightF p ((startF p).1))))) rfl) ?_
   simp only [N]
   refine wl_g (wn_t rfl rfl) (v := .agg (p.cells).toArray) (fun hg => rp_loadN H 3 rfl rfl rfl Tryz.underlying29 rfl sz29 (Nat.le_of_ble_eq_true rfl) (cs' := p.cells) rfl) ?_
   simp only [N]
   refine wl_g (wn_t rfl rfl) (v := .agg (enc (startF p).1).toArray) (fun hg => rp_loadWe H 2 rfl rfl rfl Tryz.underlying41 rfl (by first | exact sz41 | (rw [sz41]; congr 1; first | omega | (simp [-List.reduceReplicate]; done) | (simp [-List.reduceReplicate]; omega) | (simp [*, -List.reduceReplicate]; done) | (simp [*, -List.reduceReplicate]; omega))) rfl) ?_
   simp only [N]
   refine wl_gE H (wn_t rfl rfl) (fun hg => fun w => by simp only [gv_t hg]; exact rc_go Tryz.func29 (by kernel_rfl) rfl w) (v := .bool (overF p ((startF p).1))) (fun hg => by have x50 : ((((playF p ([])).2.1.length : Nat) : Int) + (((movesF p ((startF p).1)).length : Nat) : Int)) = (0 : Int) := (by simpa using (andl hg)); exact (overF_spec p ((startF p).1) (by first | omega | (simp [-List.reduceReplicate]; done) | (simp [-List.reduceReplicate]; omega) | (simp [*, -List.reduceReplicate]; done) | (simp [*, -List.reduceReplicate]; omega)) _ (H.ro_at 2 rfl) (H.ro_at 3 rfl))) ?_
   clear H; intro w14 H
   simp only [N]
   refine wl_g (wn_t rfl rfl) (v := .bool (!(overF p ((startF p).1)))) (fun hg => by have x51 : ((((playF p ([])).2.1.length : Nat) : Int) + (((movesF p ((startF p).1)).length : Nat) : Int)) = (0 : Int) := (by simpa using (andl hg)); exact (by simp only [gv_t hg]; exact rp_not rfl (overF p ((startF p).1)) rfl)) ?_
   simp only [N]
   refine wl_run rfl (rp_pickA rfl (p := ((((((playF p ([])).2.1.length : Nat) : Int) + (((movesF p ((startF p).1)).length : Nat) : Int)) == (0 : Int)) && (!(aRightF p ((startF p).1))))) (q := (!(overF p ((startF p).1)))) rfl rfl rfl) ?_
   simp only [N]
   refine wl_run rfl (rp_move rfl (v := .bool (((((((playF p ([])).2.1.length : Nat) : Int) + (((movesF p ((startF p).1)).length : Nat) : Int)) == (0 : Int)) && (!(aRightF p ((startF p).1)))) && (!(overF p ((startF p).1))))) rfl) ?_
   simp only [N]
   refine wl_gE H (wn_t rfl rfl) (fun hg => rc_go Tryz.func13 (by kernel_rfl) rfl) (v := .bool true) (fun hg => by have x52 : ((((playF p ([])).2.1.length : Nat) : Int) + (((movesF p ((startF p).1)).length : Nat) : Int)) = (0 : Int) := (by simpa using (andl (andl hg))); exact (awake_spec _ (H.ro_at 3 rfl))) ?_
   clear H; intro w15 H
   simp only [N]
   refine wl_run rfl (rp_pickA rfl (p := (((((((playF p ([])).2.1.length : Nat) : Int) + (((movesF p ((startF p).1)).length : Nat) : Int)) == (0 : Int)) && (!(aRightF p ((startF p).1)))) && (!(overF p ((startF p).1))))) (q := true) rfl rfl rfl) ?_
   simp only [N]
   refine wl_run rfl (rp_assign rfl (v := .bool ((((((((playF p ([])).2.1.length : Nat) : Int) + (((movesF p ((startF p).1)).length : Nat) : Int)) == (0 : Int)) && (!(aRightF p ((startF p).1)))) && (!(overF p ((startF p).1)))) && true)) rfl) ?_
   simp only [N]
   refine wpList_nil ?_
   refine wp_ret ?_
   try simp only [Exit.inBlock, Exit.then, cutP]
   refine bodyPost_ret (results1 rfl (rv_tmp rfl)) rfl ?_
   have hF : (wrongF p what much t) = ((((((((playF p ([])).2.1.length : Nat) : Int) + (((movesF p ((startF p).1)).length : Nat) : Int)) == (0 : Int)) && (!(aRightF p ((startF p).1)))) && (!(overF p ((startF p).1)))) && true) := (hFv36).trans (bt hg1)
   rw [hF]
   exact ⟨rfl, H.ext⟩
  · --false
   simp only [hg1]
   refine wl_skip (unwanted rfl (b := false) rfl (by decide)) ?_
   simp only [N]
   refine wl_skip (unwanted rfl (b := false) rfl (by decide)) ?_
   simp only [N]
   refine wl_skip (unwanted rfl (b := false) rfl (by decide)) ?_
   simp only [N]
   refine wl_skip (unwanted rfl (b := false) rfl (by decide)) ?_
   simp only [N]
   refine wl_run rfl (rp_pickF rfl rfl (v := .bool false) rfl) ?_
   simp only [N]
   refine wl_run rfl (rp_move rfl (v := .bool false) rfl) ?_
   simp only [N]
   refine wl_skip (unwanted rfl (b := false) rfl (by decide)) ?_
   simp only [N]
   refine wl_skip (unwanted rfl (b := false) rfl (by decide)) ?_
   simp only [N]
   refine wl_skip (unwanted rfl (b := false) rfl (by decide)) ?_
   simp only [N]
   refine wl_skip (unwanted rfl (b := false) rfl (by decide)) ?_
   simp only [N]
   refine wl_run rfl (rp_pickF rfl rfl (v := .bool false) rfl) ?_
   simp only [N]
   refine wl_run rfl (rp_move rfl (v := .bool false) rfl) ?_
   simp only [N]
   refine wl_skip (unwanted rfl (b := false) rfl (by decide)) ?_
   simp only [N]
   refine wl_skip (unwanted rfl (b := false) rfl (by decide)) ?_
   simp only [N]
   refine wl_skip (unwanted rfl (b := false) rfl (by decide)) ?_
   simp only [N]
   refine wl_skip (unwanted rfl (b := false) rfl (by decide)) ?_
   simp only [N]
   refine wl_run rfl (rp_pickF rfl rfl (v := .bool false) rfl) ?_
   simp only [N]
   refine wl_run rfl (rp_move rfl (v := .bool false) rfl) ?_
   simp only [N]
   refine wl_skip (unwanted rfl (b := false) rfl (by decide)) ?_
   simp only [N]
   refine wl_run rfl (rp_pickF rfl rfl (v := .bool false) rfl) ?_
   simp only [N]
   refine wl_run rfl (rp_assign rfl (v := .bool false) rfl) ?_
   simp only [N]
   refine wpList_nil ?_
   refine wp_ret ?_
   try simp only [Exit.inBlock, Exit.then, cutP]
   refine bodyPost_ret (results1 rfl (rv_tmp rfl)) rfl ?_
   have hF : (wrongF p what much t) = false := (hFv36).trans (bf hg1)
   rw [hF]
   exact ⟨rfl, H.ext⟩
 · --F 1
  have hc1N53 : (startF p).2 = (0 : Int) := (by simpa using hc1)
  have hr : RightOk p := start_ok (by simpa using hc1)
  have hr1 := hr.threads
  refine wp_skip ?_
  refine wp_seq ?_
  refine wp_region_lit ?_
  refine wl_run rfl (rp_move rfl (v := bv much) rfl) ?_
  simp only [N]
  refine wl_run rfl (rp_umax2 much (1 : UInt8) rfl rfl) ?_
  simp only [N]
  refine wl_run rfl (rp_assign rfl (v := bv (if much < (1 : UInt8) then (1 : UInt8) else much)) rfl) ?_
  simp only [N]
  refine wpList_nil ?_
  refine wp_seq ?_
  refine wp_cutX (fun a' w' => ∃ (ab2 : List UInt8), a' = ⟨#[(tq a' 0), bv what, bv much, iv t, .pointer (some ⟨b1, 0, none⟩), undef, undef, undef, (tq a' 8), .pointer (some ⟨b2, 0, none⟩), (tq a' 10), undef, undef, undef, undef, undef, (tq a' 16), undef, undef, (tq a' 19), (tq a' 20), (tq a' 21), (tq a' 22), (tq a' 23), (tq a' 24), (tq a' 25), undef, undef, undef, undef, undef, undef, undef, undef, undef, undef, undef, undef, undef, undef, undef, undef, undef, undef, undef, undef, undef, undef, undef, undef, undef, undef, undef, undef, undef, undef, undef, undef, undef, undef, undef, undef, undef, undef, undef, undef, undef, undef, undef, undef, undef, undef, undef, undef, undef, undef, undef, undef, undef, undef, undef, bv much, (tq a' 82), (tq a' 83), (tq a' 84), (tq a' 85), (tq a' 86), (tq a' 87), (tq a' 88), (tq a' 89), (tq a' 90), (tq a' 91), (tq a' 92), (tq a' 93), (tq a' 94), (tq a' 95), (tq a' 96), (tq a' 97), (tq a' 98), (tq a' 99), (tq a' 100), (tq a' 101), (tq a' 102), (tq a' 103), (tq a' 104), (tq a' 105), (tq a' 106), (tq a' 107), (tq a' 108), (tq a' 109), (tq a' 110), (tq a' 111), (tq a' 112), (tq a' 113), (tq a' 114), (tq a' 115), (tq a' 116), (tq a' 117), (tq a' 118), (tq a' 119), (tq a' 120), (tq a' 121), (tq a' 122), (tq a' 123), (tq a' 124), (tq a' 125), (tq a' 126), (tq a' 127), (tq a' 128), (tq a' 129), (tq a' 130), (tq a' 131), (tq a' 132), undef, undef, undef, undef, undef, undef, undef, undef, undef, undef, undef, undef, undef, undef, undef, undef, undef, undef, undef, undef, undef, undef, undef, undef, undef, undef, undef, undef, undef, undef, undef, undef, undef, undef, undef, undef], []⟩ ∧ Own w [] [IsProg p, Glob] [.blk b2 (.cells (enc ab2).toArray 41 (0, 0)), .blk b1 (.cells (p.cells).toArray 29 (0, 0))] w' ∧ (ab2.length = 142) ∧ (wrongF p what much t) = wrongF_a p t ab2) ?_ ?_
  ·
   refine wp_seq ?_
   refine wp_region_lit ?_
   refine wl_run rfl (rp_move rfl (v := bv what) rfl) ?_
   simp only [N]
   have hrem84 : ((what % (4 : UInt8))).toNat < ((4 : UInt8)).toNat := by rw [UInt8.toNat_mod]; exact Nat.mod_lt _ (by decide)
   have hremk84 : ((4 : UInt8)).toNat = 4 := rfl
   refine wl_run rfl (rp_u8_rem rfl what (4 : UInt8) rfl rfl (by decide)) ?_
   simp only [N]
   refine wpList_nil ?_
   refine wp_block ?_
   refine wp_seq ?_
   refine wp_region_lit ?_
   refine wl_run rfl (rp_u8_eql rfl (what % (4 : UInt8)) (0 : UInt8) rfl rfl) ?_
   simp only [N]
   refine wl_run rfl (rp_assign rfl (v := .bool ((what % (4 : UInt8)) == (0 : UInt8))) rfl) ?_
   simp only [N]
   refine wpList_nil ?_
   refine wp_cond_split rfl (fun hc2 => ?_) (fun hc2 => ?_)
   · --T 2
    have hc2N54 : ((what % (4 : UInt8))).toNat = 0 := u8_eq hc2
    refine wp_region_lit ?_
    refine wl_run rfl (rp_fieldAddr rfl Tryz.underlying29 rfl 3 rfl sz24 rfl (3) rfl) ?_
    simp only [N]
    refine wl_run rfl (rp_load1 H 1 rfl rfl rfl Tryz.underlying24 rfl (v := p.threads.val) rfl) ?_
    simp only [N]
    refine wl_run rfl (rp_indexAddr_sl (IsProg.threads ((H.ro_at 0 rfl))) rfl Tryz.underlying24 sz53 rfl 0 rfl (by omega)) ?_
    simp only [N]
    refine wl_run rfl (rp_load1_sl (IsProg.threads ((H.ro_at 0 rfl))) (0) (by omega) rfl Tryz.underlying53 rfl 0 rfl (by omega) (v := (p.threads.l.getD (0) default).val) rfl) ?_
    simp only [N]
    refine wl_run rfl (rp_len_sl (s := (p.threads.l.getD (0) default)) Tryz.underlying53 rfl) ?_
    simp only [N]
    refine wl_run rfl (rp_int_to_u8 rfl Tryz.underlying3 Tryz.underlying5 (((p.threads.l.getD (0) default).l.length : Nat) : Int) rfl) ?_
    simp only [N]
    refine wl_run rfl (rp_move rfl (v := bv (if much < (1 : UInt8) then (1 : UInt8) else much)) rfl) ?_
    simp only [N]
    have hrem103 : (((if much < (1 : UInt8) then (1 : UInt8) else much) % (100 : UInt8))).toNat < ((100 : UInt8)).toNat := by rw [UInt8.toNat_mod]; exact Nat.mod_lt _ (by decide)
    have hremk103 : ((100 : UInt8)).toNat = 100 := rfl
    refine wl_run rfl (rp_u8_rem rfl (if much < (1 : UInt8) then (1 : UInt8) else much) (100 : UInt8) rfl rfl (by decide)) ?_
    simp only [N]
    refine wl_run rfl (rp_u8_add rfl (UInt8.ofNat ((((p.threads.l.getD (0) default).l.length : Nat) : Int) % 256).toNat) ((if much < (1 : UInt8) then (1 : UInt8) else much) % (100 : UInt8)) rfl rfl) ?_
    simp only [N]
    refine wl_run rfl (rp_u8_add rfl ((UInt8.ofNat ((((p.threads.l.getD (0) default).l.length : Nat) : Int) % 256).toNat) + ((if much < (1 : UInt8) then (1 : UInt8) else much) % (100 : UInt8))) (1 : UInt8) rfl rfl) ?_
    simp only [N]
    refine wl_run rfl (rp_fieldAddr rfl Tryz.underlying41 rfl 0 rfl sz33 rfl (0) rfl) ?_
    simp only [N]
    refine wl_run rfl (rp_indexAddr_arr rfl Tryz.underlying33 sz32 rfl 0 rfl (by omega) (0) (by omega)) ?_
    simp only [N]
    refine wl_run rfl (rp_fieldAddr rfl Tryz.underlying32 rfl 0 rfl sz5 rfl (0) rfl) ?_
    simp only [N]
    refine wl_store1e H 0 rfl rfl rfl rfl (((UInt8.ofNat ((((p.threads.l.getD (0) default).l.length : Nat) : Int) % 256).toNat) + ((if much < (1 : UInt8) then (1 : UInt8) else much) % (100 : UInt8))) + (1 : UInt8)) rfl sz5 (0) rfl (by first | omega | (simp [-List.reduceReplicate]; done) | (simp [-List.reduceReplicate]; omega) | (simp [*, -List.reduceReplicate]; done) | (simp [*, -List.reduceReplicate]; omega)) ?_
    clear H; intro w16 H; simp only [M] at H
    simp only [N]
    refine wpList_nil ?_
    exact ⟨((startF p).1.set (0) (((UInt8.ofNat ((((p.threads.l.getD (0) default).l.length : Nat) : Int) % 256).toNat) + ((if much < (1 : UInt8) then (1 : UInt8) else much) % (100 : UInt8))) + (1 : UInt8))), (by kernel_rfl), H, (by first | omega | (simp [-List.reduceReplicate]; done) | (simp [-List.reduceReplicate]; omega) | (simp [*, -List.reduceReplicate]; done) | (simp [*, -List.reduceReplicate]; omega)), (bf hc1).trans (bt hc2)⟩
   · --F 2
    have hc2N55 : ((what % (4 : UInt8))).toNat ≠ 0 := u8_ne hc2
    refine wp_seq ?_
    refine wp_region_lit ?_
    refine wl_run rfl (rp_u8_eql rfl (what % (4 : UInt8)) (1 : UInt8) rfl rfl) ?_
    simp only [N]
    refine wl_run rfl (rp_assign rfl (v := .bool ((what % (4 : UInt8)) == (1 : UInt8))) rfl) ?_
    simp only [N]
    refine wpList_nil ?_
    refine wp_cond_split rfl (fun hc3 => ?_) (fun hc3 => ?_)
    · --T 3
     have hc3N56 : ((what % (4 : UInt8))).toNat = 1 := u8_eq hc3
     refine wp_seq ?_
     refine wp_seq ?_
     refine wp_region_lit ?_
     refine wl_run rfl (rp_fieldAddr rfl Tryz.underlying29 rfl 3 rfl sz24 rfl (3) rfl) ?_
     simp only [N]
     refine wl_run rfl (rp_load1 H 1 rfl rfl rfl Tryz.underlying24 rfl (v := p.threads.val) rfl) ?_
     simp only [N]
     refine wl_run rfl (rp_len_sl (s := p.threads) Tryz.underlying24 rfl) ?_
     simp only [N]
     refine wl_run rfl (rp_int_eql rfl ((p.threads.l.length : Nat) : Int) (4 : Int) rfl rfl) ?_
     simp only [N]
     refine wpList_nil ?_
     refine wp_cond_split rfl (fun hc4 => ?_) (fun hc4 => ?_)
     · --T 4
      have hc4N57 : ((p.threads.l.length : Nat) : Int) = (4 : Int) := (by simpa using hc4)
      refine wp_seq ?_
      refine wp_region_lit ?_
      refine wl_callE H rfl (rc_go Tryz.func13 (by kernel_rfl) rfl) (awake_spec _ (H.ro_at 1 rfl)) ?_
      clear H; intro w17 H
      simp only [N]
      refine wl_run rfl (rp_assign rfl (v := .bool true) rfl) ?_
      simp only [N]
      refine wpList_nil ?_
      refine wp_ret ?_
      try simp only [Exit.inBlock, Exit.then, cutP]
      refine bodyPost_ret (results1 rfl (rv_tmp rfl)) rfl ?_
      have hF : (wrongF p what much t) = true := (bf hc1).trans ((bf hc2).trans ((bt hc3).trans (bt hc4)))
      rw [hF]
      exact ⟨rfl, H.ext⟩
     · --F 4
      have hc4N58 : ((p.threads.l.length : Nat) : Int) ≠ (4 : Int) := (by simpa using hc4)
      refine wp_skip ?_
      refine wp_region_lit ?_
      refine wl_run rfl (rp_move rfl (v := bv much) rfl) ?_
      simp only [N]
      have hrem117 : ((much % (8 : UInt8))).toNat < ((8 : UInt8)).toNat := by rw [UInt8.toNat_mod]; exact Nat.mod_lt _ (by decide)
      have hremk117 : ((8 : UInt8)).toNat = 8 := rfl
      refine wl_run rfl (rp_u8_rem rfl much (8 : UInt8) rfl rfl (by decide)) ?_
      simp only [N]
      refine wl_run rfl (rp_move rfl (v := bv (if much < (1 : UInt8) then (1 : UInt8) else much)) rfl) ?_
      simp only [N]
      refine wl_run rfl (rp_fieldAddr rfl Tryz.underlying41 rfl 0 rfl sz33 rfl (0) rfl) ?_
      simp only [N]
      refine wl_run rfl (rp_indexAddr_arr rfl Tryz.underlying33 sz32 rfl 3 rfl (by omega) (27) (by omega)) ?_
      simp only [N]
      refine wl_run rfl (rp_fieldAddr rfl Tryz.underlying32 rfl 1 rfl sz30 rfl (28) rfl) ?_
      simp only [N]
      refine wl_run rfl (rp_indexAddr_arr rfl Tryz.underlying30 sz5 rfl ((much % (8 : UInt8))).toNat rfl (by omega) (28 + ((much % (8 : UInt8))).toNat) (by omega)) ?_
      simp only [N]
      refine wl_store1e H 0 rfl rfl rfl rfl (if much < (1 : UInt8) then (1 : UInt8) else much) rfl sz5 (28 + ((much % (8 : UInt8))).toNat) rfl (by first | omega | (simp [-List.reduceReplicate]; done) | (simp [-List.reduceReplicate]; omega) | (simp [*, -List.reduceReplicate]; done) | (simp [*, -List.reduceReplicate]; omega)) ?_
      clear H; intro w18 H; simp only [M] at H
      simp only [N]
      refine wpList_nil ?_
      exact ⟨((startF p).1.set (28 + ((much % (8 : UInt8))).toNat) (if much < (1 : UInt8) then (1 : UInt8) else much)), (by kernel_rfl), H, (by first | omega | (simp [-List.reduceReplicate]; done) | (simp [-List.reduceReplicate]; omega) | (simp [*, -List.reduceReplicate]; done) | (simp [*, -List.reduceReplicate]; omega)), (bf hc1).trans ((bf hc2).trans ((bt hc3).trans (bf hc4)))⟩
    · --F 3
     have hc3N59 : ((what % (4 : UInt8))).toNat ≠ 1 := u8_ne hc3
     refine wp_seq ?_
     refine wp_region_lit ?_
     refine wl_run rfl (rp_u8_eql rfl (what % (4 : UInt8)) (2 : UInt8) rfl rfl) ?_
     simp only [N]
     refine wl_run rfl (rp_assign rfl (v := .bool ((what % (4 : UInt8)) == (2 : UInt8))) rfl) ?_
     simp only [N]
     refine wpList_nil ?_
     refine wp_cond_split rfl (fun hc5 => ?_) (fun hc5 => ?_)
     · --T 5
      have hc5N60 : ((what % (4 : UInt8))).toNat = 2 := u8_eq hc5
      refine wp_seq ?_
      refine wp_seq ?_
      refine wp_region_lit ?_
      refine wl_run rfl (rp_fieldAddr rfl Tryz.underlying29 rfl 1 rfl sz22 rfl (1) rfl) ?_
      simp only [N]
      refine wl_run rfl (rp_load1 H 1 rfl rfl rfl Tryz.underlying22 rfl (v := p.locs.val) rfl) ?_
      simp only [N]
      refine wl_run rfl (rp_len_sl (s := p.locs) Tryz.underlying22 rfl) ?_
      simp only [N]
      refine wl_run rfl (rp_int_eql rfl ((p.locs.l.length : Nat) : Int) (6 : Int) rfl rfl) ?_
      simp only [N]
      refine wpList_nil ?_
      refine wp_cond_split rfl (fun hc6 => ?_) (fun hc6 => ?_)
      · --T 6
       have hc6N61 : ((p.locs.l.length : Nat) : Int) = (6 : Int) := (by simpa using hc6)
       refine wp_seq ?_
       refine wp_region_lit ?_
       refine wl_callE H rfl (rc_go Tryz.func13 (by kernel_rfl) rfl) (awake_spec _ (H.ro_at 1 rfl)) ?_
       clear H; intro w19 H
       simp only [N]
       refine wl_run rfl (rp_assign rfl (v := .bool true) rfl) ?_
       simp only [N]
       refine wpList_nil ?_
       refine wp_ret ?_
       try simp only [Exit.inBlock, Exit.then, cutP]
       refine bodyPost_ret (results1 rfl (rv_tmp rfl)) rfl ?_
       have hF : (wrongF p what much t) = true := (bf hc1).trans ((bf hc2).trans ((bf hc3).trans ((bt hc5).trans (bt hc6))))
       rw [hF]
       exact ⟨rfl, H.ext⟩
      · --F 6
       have hc6N62 : ((p.locs.l.length : Nat) : Int) ≠ (6 : Int) := (by simpa using hc6)
       refine wp_skip ?_
       refine wp_region_lit ?_
       refine wl_run rfl (rp_move rfl (v := bv (if much < (1 : UInt8) then (1 : UInt8) else much)) rfl) ?_
       simp only [N]
       refine wl_run rfl (rp_fieldAddr rfl Tryz.underlying41 rfl 36 rfl sz34 rfl (36) rfl) ?_
       simp only [N]
       refine wl_run rfl (rp_indexAddr_arr rfl Tryz.underlying34 sz5 rfl 5 rfl (by omega) (41) (by omega)) ?_
       simp only [N]
       refine wl_store1e H 0 rfl rfl rfl rfl (if much < (1 : UInt8) then (1 : UInt8) else much) rfl sz5 (41) rfl (by first | omega | (simp [-List.reduceReplicate]; done) | (simp [-List.reduceReplicate]; omega) | (simp [*, -List.reduceReplicate]; done) | (simp [*, -List.reduceReplicate]; omega)) ?_
       clear H; intro w20 H; simp only [M] at H
       simp only [N]
       refine wpList_nil ?_
       exact ⟨((startF p).1.set (41) (if much < (1 : UInt8) then (1 : UInt8) else much)), (by kernel_rfl), H, (by first | omega | (simp [-List.reduceReplicate]; done) | (simp [-List.reduceReplicate]; omega) | (simp [*, -List.reduceReplicate]; done) | (simp [*, -List.reduceReplicate]; omega)), (bf hc1).trans ((bf hc2).trans ((bf hc3).trans ((bt hc5).trans (bf hc6))))⟩
     · --F 5
      have hc5N63 : ((what % (4 : UInt8))).toNat ≠ 2 := u8_ne hc5
      refine wp_region_lit ?_
      refine wl_run rfl (rp_move rfl (v := bv much) rfl) ?_
      simp only [N]
      have hrem86 : ((much % (4 : UInt8))).toNat < ((4 : UInt8)).toNat := by rw [UInt8.toNat_mod]; exact Nat.mod_lt _ (by decide)
      have hremk86 : ((4 : UInt8)).toNat = 4 := rfl
      refine wl_run rfl (rp_u8_rem rfl much (4 : UInt8) rfl rfl (by decide)) ?_
      simp only [N]
      refine wl_run rfl (rp_move rfl (v := bv much) rfl) ?_
      simp only [N]
      have hrem88 : ((much % (12 : UInt8))).toNat < ((12 : UInt8)).toNat := by rw [UInt8.toNat_mod]; exact Nat.mod_lt _ (by decide)
      have hremk88 : ((12 : UInt8)).toNat = 12 := rfl
      refine wl_run rfl (rp_u8_rem rfl much (12 : UInt8) rfl rfl (by decide)) ?_
      simp only [N]
      refine wl_run rfl (rp_move rfl (v := bv (if much < (1 : UInt8) then (1 : UInt8) else much)) rfl) ?_
      simp only [N]
      refine wl_run rfl (rp_fieldAddr rfl Tryz.underlying41 rfl 42 rfl sz38 rfl (42) rfl) ?_
      simp only [N]
      refine wl_run rfl (rp_indexAddr_arr rfl Tryz.underlying38 sz37 rfl ((much % (4 : UInt8))).toNat rfl (by omega) (42 + ((much % (4 : UInt8))).toNat * 24) (by omega)) ?_
      simp only [N]
      refine wl_run rfl (rp_indexAddr_arr rfl Tryz.underlying37 sz36 rfl ((much % (12 : UInt8))).toNat rfl (by omega) (42 + ((much % (4 : UInt8))).toNat * 24 + ((much % (12 : UInt8))).toNat * 2) (by omega)) ?_
      simp only [N]
      refine wl_run rfl (rp_fieldAddr rfl Tryz.underlying36 rfl 1 rfl sz5 rfl (42 + ((much % (4 : UInt8))).toNat * 24 + ((much % (12 : UInt8))).toNat * 2 + 1) (by omega)) ?_
      simp only [N]
      refine wl_store1e H 0 rfl rfl rfl rfl (if much < (1 : UInt8) then (1 : UInt8) else much) rfl sz5 (42 + ((much % (4 : UInt8))).toNat * 24 + ((much % (12 : UInt8))).toNat * 2 + 1) rfl (by first | omega | (simp [-List.reduceReplicate]; done) | (simp [-List.reduceReplicate]; omega) | (simp [*, -List.reduceReplicate]; done) | (simp [*, -List.reduceReplicate]; omega)) ?_
      clear H; intro w21 H; simp only [M] at H
      simp only [N]
      refine wpList_nil ?_
      exact ⟨((startF p).1.set (42 + ((much % (4 : UInt8))).toNat * 24 + ((much % (12 : UInt8))).toNat * 2 + 1) (if much < (1 : UInt8) then (1 : UInt8) else much)), (by kernel_rfl), H, (by first | omega | (simp [-List.reduceReplicate]; done) | (simp [-List.reduceReplicate]; omega) | (simp [*, -List.reduceReplicate]; done) | (simp [*, -List.reduceReplicate]; omega)), (bf hc1).trans ((bf hc2).trans ((bf hc3).trans (bf hc5)))⟩
  clear H
  rintro a_ w22 ⟨ab2, ha_, H, hja0, hFa⟩
  obtain ⟨ua, hu_⟩ : ∃ ua : Nat → Value, a_ = ⟨#[(ua 0), bv what, bv much, iv t, .pointer (some ⟨b1, 0, none⟩), undef, undef, undef, (ua 8), .pointer (some ⟨b2, 0, none⟩), (ua 10), undef, undef, undef, undef, undef, (ua 16), undef, undef, (ua 19), (ua 20), (ua 21), (ua 22), (ua 23), (ua 24), (ua 25), undef, undef, undef, undef, undef, undef, undef, undef, undef, undef, undef, undef, undef, undef, undef, undef, undef, undef, undef, undef, undef, undef, undef, undef, undef, undef, undef, undef, undef, undef, undef, undef, undef, undef, undef, undef, undef, undef, undef, undef, undef, undef, undef, undef, undef, undef, undef, undef, undef, undef, undef, undef, undef, undef, undef, bv much, (ua 82), (ua 83), (ua 84), (ua 85), (ua 86), (ua 87), (ua 88), (ua 89), (ua 90), (ua 91), (ua 92), (ua 93), (ua 94), (ua 95), (ua 96), (ua 97), (ua 98), (ua 99), (ua 100), (ua 101), (ua 102), (ua 103), (ua 104), (ua 105), (ua 106), (ua 107), (ua 108), (ua 109), (ua 110), (ua 111), (ua 112), (ua 113), (ua 114), (ua 115), (ua 116), (ua 117), (ua 118), (ua 119), (ua 120), (ua 121), (ua 122), (ua 123), (ua 124), (ua 125), (ua 126), (ua 127), (ua 128), (ua 129), (ua 130), (ua 131), (ua 132), undef, undef, undef, undef, undef, undef, undef, undef, undef, undef, undef, undef, undef, undef, undef, undef, undef, undef, undef, undef, undef, undef, undef, undef, undef, undef, undef, undef, undef, undef, undef, undef, undef, undef, undef, undef], []⟩ := ⟨fun n => tq a_ n, ha_⟩
  clear ha_; subst hu_
  refine wp_seq ?_
  refine wp_region_lit ?_
  refine wl_run rfl (rp_loadN H 1 rfl rfl rfl Tryz.underlying29 rfl sz29 (Nat.le_of_ble_eq_true rfl) (cs' := p.cells) rfl) ?_
  simp only [N]
  refine wl_run rfl (rp_loadWe H 0 rfl rfl rfl Tryz.underlying41 rfl (by first | exact sz41 | (rw [sz41]; congr 1; first | omega | (simp [-List.reduceReplicate]; done) | (simp [-List.reduceReplicate]; omega) | (simp [*, -List.reduceReplicate]; done) | (simp [*, -List.reduceReplicate]; omega))) rfl) ?_
  simp only [N]
  refine wl_run rfl (rp_move rfl (v := iv t) rfl) ?_
  simp only [N]
  refine wl_callE H rfl (rc_go Tryz.func14 (by kernel_rfl) rfl) (moveF_spec p ab2 t (by first | omega | (simp [-List.reduceReplicate]; done) | (simp [-List.reduceReplicate]; omega) | (simp [*, -List.reduceReplicate]; done) | (simp [*, -List.reduceReplicate]; omega)) _ (H.ro_at 0 rfl) (H.ro_at 1 rfl)) ?_
  clear H; intro w23 H
  simp only [N]
  refine wl_run rfl (rp_move rfl (v := .tuple #[.agg (enc (moveF p ab2 t).1).toArray, iv (moveF p ab2 t).2]) rfl) ?_
  simp only [N]
  refine wl_run rfl (rp_extract rfl rfl (v := .agg (enc (moveF p ab2 t).1).toArray) rfl) ?_
  simp only [N]
  refine wl_run rfl (rp_extract rfl rfl (v := iv (moveF p ab2 t).2) rfl) ?_
  simp only [N]
  refine wl_alloc H rfl rfl zv41 ?_
  clear H; intro b5 w24 hnb5 H; dsimp only [Value.cells] at H
  simp only [N]
  simp only [enc_replicate] at H
  refine wl_storeW H 0 rfl rfl rfl rfl (vs := (enc (moveF p ab2 t).1).toArray) rfl (fun v hv => enc_one v (by simpa using hv)) (by first | (rw [sz41]; congr 1; done) | (rw [sz41]; congr 1; first | omega | (simp [-List.reduceReplicate]; done) | (simp [-List.reduceReplicate]; omega) | (simp [*, -List.reduceReplicate]; done) | (simp [*, -List.reduceReplicate]; omega))) (by first | omega | (simp [-List.reduceReplicate]; done) | (simp [-List.reduceReplicate]; omega) | (simp [*, -List.reduceReplicate]; done) | (simp [*, -List.reduceReplicate]; omega)) ?_
  clear H; intro w25 H; simp only [M] at H
  simp only [N]
  refine wl_run rfl (rp_assign rfl (v := iv (moveF p ab2 t).2) rfl) ?_
  simp only [N]
  refine wpList_nil ?_
  refine wp_seq ?_
  refine wp_region_lit ?_
  refine wl_run rfl (rp_loadN H 2 rfl rfl rfl Tryz.underlying29 rfl sz29 (Nat.le_of_ble_eq_true rfl) (cs' := p.cells) rfl) ?_
  simp only [N]
  refine wl_run rfl (rp_loadWe H 1 rfl rfl rfl Tryz.underlying41 rfl (by first | exact sz41 | (rw [sz41]; congr 1; first | omega | (simp [-List.reduceReplicate]; done) | (simp [-List.reduceReplicate]; omega) | (simp [*, -List.reduceReplicate]; done) | (simp [*, -List.reduceReplicate]; omega))) rfl) ?_
  simp only [N]
  refine wl_callE H rfl (rc_go Tryz.func26 (by kernel_rfl) rfl) (aRightF_spec p ab2 (by first | omega | (simp [-List.reduceReplicate]; done) | (simp [-List.reduceReplicate]; omega) | (simp [*, -List.reduceReplicate]; done) | (simp [*, -List.reduceReplicate]; omega)) _ (H.ro_at 0 rfl) (H.ro_at 1 rfl)) ?_
  clear H; intro w26 H
  simp only [N]
  refine wl_run rfl (rp_not rfl (aRightF p ab2) rfl) ?_
  simp only [N]
  refine wl_run rfl (rp_move rfl (v := .bool (!(aRightF p ab2))) rfl) ?_
  simp only [N]
  refine wl_g (wn_t rfl rfl) (v := .agg (p.cells).toArray) (fun hg => rp_loadN H 2 rfl rfl rfl Tryz.underlying29 rfl sz29 (Nat.le_of_ble_eq_true rfl) (cs' := p.cells) rfl) ?_
  simp only [N]
  refine wl_g (wn_t rfl rfl) (v := .agg (enc ab2).toArray) (fun hg => rp_loadWe H 1 rfl rfl rfl Tryz.underlying41 rfl (by first | exact sz41 | (rw [sz41]; congr 1; first | omega | (simp [-List.reduceReplicate]; done) | (simp [-List.reduceReplicate]; omega) | (simp [*, -List.reduceReplicate]; done) | (simp [*, -List.reduceReplicate]; omega))) rfl) ?_
  simp only [N]
  rcases Bool.eq_false_or_eq_true (!(aRightF p ab2)) with hg2 | hg2
  · --true
   simp only [(notT hg2), hg2, gv_t hg2, Bool.true_and, Bool.and_true]
   refine wl_callFA H rfl (rc_go Tryz.func11 (by kernel_rfl) rfl) (movesF_spec p ab2 (by first | omega | (simp [-List.reduceReplicate]; done) | (simp [-List.reduceReplicate]; omega) | (simp [*, -List.reduceReplicate]; done) | (simp [*, -List.reduceReplicate]; omega)) _ (H.ro_at 0 rfl) (H.ro_at 1 rfl)) ?_
   clear H; intro x5_ w27 H
   simp only [N]
   have hcx5_0 : (movesF p ab2).length ≤ 140737488355328 := ((FreshAt.now (H.ro_at 0 rfl))).2.2.1
   refine wl_run rfl (rp_len_sl (s := (⟨x5_.1, x5_.2, (movesF p ab2)⟩ : Sl Int)) Tryz.underlying44 rfl) ?_
   simp only [N]
   refine wl_run rfl (rp_int_eql rfl (((movesF p ab2).length : Nat) : Int) (0 : Int) rfl rfl) ?_
   simp only [N]
   refine wl_run rfl (rp_pickT rfl rfl (u := .bool ((((movesF p ab2).length : Nat) : Int) == (0 : Int))) rfl) ?_
   simp only [N]
   refine wl_run rfl (rp_move rfl (v := .bool ((((movesF p ab2).length : Nat) : Int) == (0 : Int))) rfl) ?_
   simp only [N]
   refine wl_g (wn_t rfl rfl) (v := iv (moveF p ab2 t).2) (fun hg => rp_move rfl (v := iv (moveF p ab2 t).2) rfl) ?_
   simp only [N]
   refine wl_g (wn_t rfl rfl) (v := .bool ((moveF p ab2 t).2 == (2 : Int))) (fun hg => by have x65 : (((movesF p ab2).length : Nat) : Int) = (0 : Int) := (by simpa using hg); exact (by simp only [gv_t hg]; exact rp_int_eql rfl (moveF p ab2 t).2 (2 : Int) rfl rfl)) ?_
   simp only [N]
   refine wl_run rfl (rp_pickA rfl (p := ((((movesF p ab2).length : Nat) : Int) == (0 : Int))) (q := ((moveF p ab2 t).2 == (2 : Int))) rfl rfl rfl) ?_
   simp only [N]
   refine wl_run rfl (rp_move rfl (v := .bool (((((movesF p ab2).length : Nat) : Int) == (0 : Int)) && ((moveF p ab2 t).2 == (2 : Int)))) rfl) ?_
   simp only [N]
   refine wl_g (wn_t rfl rfl) (v := .agg (enc (moveF p ab2 t).1).toArray) (fun hg => rp_loadWe H 0 rfl rfl rfl Tryz.underlying41 rfl (by first | exact sz41 | (rw [sz41]; congr 1; first | omega | (simp [-List.reduceReplicate]; done) | (simp [-List.reduceReplicate]; omega) | (simp [*, -List.reduceReplicate]; done) | (simp [*, -List.reduceReplicate]; omega))) rfl) ?_
   simp only [N]
   refine wl_g (wn_t rfl rfl) (v := .agg (enc (List.replicate 142 (0 : UInt8))).toArray) (fun hg => rp_build rfl (vs := []) rfl (cs := (enc (List.replicate 142 (0 : UInt8))).toArray) (by kernel_rfl)) ?_
   simp only [N]
   refine wl_g (wn_t rfl rfl) (v := .bool (decide ((moveF p ab2 t).1 = (List.replicate 142 (0 : UInt8))))) (fun hg => by have x70 : (((movesF p ab2).length : Nat) : Int) = (0 : Int) := (by simpa using (andl hg)); have x71 : (moveF p ab2 t).2 = (2 : Int) := (by simpa using (andr hg)); exact (by simp only [gv_t hg]; exact rp_eql_leafs rfl 6 (by decide) (by kernel_rfl) (by kernel_rfl) (ks := (List.replicate 142 (.int .u8))) (by kernel_rfl) (xs := enc (moveF p ab2 t).1) (ys := enc (List.replicate 142 (0 : UInt8))) rfl rfl (formed_enc Tryz.underlying41 rfl sz41 (by first | omega | (simp [-List.reduceReplicate]; done) | (simp [-List.reduceReplicate]; omega) | (simp [*, -List.reduceReplicate]; done) | (simp [*, -List.reduceReplicate]; omega))) (formed_enc Tryz.underlying41 rfl sz41 (by first | omega | (simp [-List.reduceReplicate]; done) | (simp [-List.reduceReplicate]; omega) | (simp [*, -List.reduceReplicate]; done) | (simp [*, -List.reduceReplicate]; omega))) (fits_enc (by first | omega | (simp [-List.reduceReplicate]; done) | (simp [-List.reduceReplicate]; omega) | (simp [*, -List.reduceReplicate]; done) | (simp [*, -List.reduceReplicate]; omega))) (fits_enc (by first | omega | (simp [-List.reduceReplicate]; done) | (simp [-List.reduceReplicate]; omega) | (simp [*, -List.reduceReplicate]; done) | (simp [*, -List.reduceReplicate]; omega))) (r := (decide ((moveF p ab2 t).1 = (List.replicate 142 (0 : UInt8))))) (by exact enc_iff _ _))) ?_
   simp only [N]
   refine wl_run rfl (rp_pickA rfl (p := (((((movesF p ab2).length : Nat) : Int) == (0 : Int)) && ((moveF p ab2 t).2 == (2 : Int)))) (q := (decide ((moveF p ab2 t).1 = (List.replicate 142 (0 : UInt8))))) rfl rfl rfl) ?_
   simp only [N]
   refine wl_run rfl (rp_move rfl (v := .bool ((((((movesF p ab2).length : Nat) : Int) == (0 : Int)) && ((moveF p ab2 t).2 == (2 : Int))) && (decide ((moveF p ab2 t).1 = (List.replicate 142 (0 : UInt8)))))) rfl) ?_
   simp only [N]
   refine wl_g (wn_t rfl rfl) (v := .agg (p.cells).toArray) (fun hg => rp_loadN H 2 rfl rfl rfl Tryz.underlying29 rfl sz29 (Nat.le_of_ble_eq_true rfl) (cs' := p.cells) rfl) ?_
   simp only [N]
   refine wl_g (wn_t rfl rfl) (v := .agg (enc ab2).toArray) (fun hg => rp_loadWe H 1 rfl rfl rfl Tryz.underlying41 rfl (by first | exact sz41 | (rw [sz41]; congr 1; first | omega | (simp [-List.reduceReplicate]; done) | (simp [-List.reduceReplicate]; omega) | (simp [*, -List.reduceReplicate]; done) | (simp [*, -List.reduceReplicate]; omega))) rfl) ?_
   simp only [N]
   refine wl_gE H (wn_t rfl rfl) (fun hg => fun w => by simp only [gv_t hg]; exact rc_go Tryz.func29 (by kernel_rfl) rfl w) (v := .bool (overF p ab2)) (fun hg => by have x76 : (((movesF p ab2).length : Nat) : Int) = (0 : Int) := (by simpa using (andl (andl hg))); have x77 : (moveF p ab2 t).2 = (2 : Int) := (by simpa using (andr (andl hg))); exact (overF_spec p ab2 (by first | omega | (simp [-List.reduceReplicate]; done) | (simp [-List.reduceReplicate]; omega) | (simp [*, -List.reduceReplicate]; done) | (simp [*, -List.reduceReplicate]; omega)) _ (H.ro_at 1 rfl) (H.ro_at 2 rfl))) ?_
   clear H; intro w28 H
   simp only [N]
   refine wl_g (wn_t rfl rfl) (v := .bool (!(overF p ab2))) (fun hg => by have x78 : (((movesF p ab2).length : Nat) : Int) = (0 : Int) := (by simpa using (andl (andl hg))); have x79 : (moveF p ab2 t).2 = (2 : Int) := (by simpa using (andr (andl hg))); exact (by simp only [gv_t hg]; exact rp_not rfl (overF p ab2) rfl)) ?_
   simp only [N]
   refine wl_run rfl (rp_pickA rfl (p := ((((((movesF p ab2).length : Nat) : Int) == (0 : Int)) && ((moveF p ab2 t).2 == (2 : Int))) && (decide ((moveF p ab2 t).1 = (List.replicate 142 (0 : UInt8)))))) (q := (!(overF p ab2))) rfl rfl rfl) ?_
   simp only [N]
   refine wl_run rfl (rp_move rfl (v := .bool (((((((movesF p ab2).length : Nat) : Int) == (0 : Int)) && ((moveF p ab2 t).2 == (2 : Int))) && (decide ((moveF p ab2 t).1 = (List.replicate 142 (0 : UInt8))))) && (!(overF p ab2)))) rfl) ?_
   simp only [N]
   refine wl_gE H (wn_t rfl rfl) (fun hg => rc_go Tryz.func13 (by kernel_rfl) rfl) (v := .bool true) (fun hg => by have x80 : (((movesF p ab2).length : Nat) : Int) = (0 : Int) := (by simpa using (andl (andl (andl hg)))); have x81 : (moveF p ab2 t).2 = (2 : Int) := (by simpa using (andr (andl (andl hg)))); exact (awake_spec _ (H.ro_at 2 rfl))) ?_
   clear H; intro w29 H
   simp only [N]
   refine wl_run rfl (rp_pickA rfl (p := (((((((movesF p ab2).length : Nat) : Int) == (0 : Int)) && ((moveF p ab2 t).2 == (2 : Int))) && (decide ((moveF p ab2 t).1 = (List.replicate 142 (0 : UInt8))))) && (!(overF p ab2)))) (q := true) rfl rfl rfl) ?_
   simp only [N]
   refine wl_run rfl (rp_assign rfl (v := .bool ((((((((movesF p ab2).length : Nat) : Int) == (0 : Int)) && ((moveF p ab2 t).2 == (2 : Int))) && (decide ((moveF p ab2 t).1 = (List.replicate 142 (0 : UInt8))))) && (!(overF p ab2))) && true)) rfl) ?_
   simp only [N]
   refine wpList_nil ?_
   refine wp_ret ?_
   try simp only [Exit.inBlock, Exit.then, cutP]
   refine bodyPost_ret (results1 rfl (rv_tmp rfl)) rfl ?_
   have hF : (wrongF p what much t) = ((((((((movesF p ab2).length : Nat) : Int) == (0 : Int)) && ((moveF p ab2 t).2 == (2 : Int))) && (decide ((moveF p ab2 t).1 = (List.replicate 142 (0 : UInt8))))) && (!(overF p ab2))) && true) := (hFa).trans (bt hg2)
   rw [hF]
   exact ⟨rfl, H.ext⟩
  · --false
   simp only [hg2, (notF hg2)]
   refine wl_skip (unwanted rfl (b := false) rfl (by decide)) ?_
   simp only [N]
   refine wl_skip (unwanted rfl (b := false) rfl (by decide)) ?_
   simp only [N]
   refine wl_skip (unwanted rfl (b := false) rfl (by decide)) ?_
   simp only [N]
   refine wl_run rfl (rp_pickF rfl rfl (v := .bool false) rfl) ?_
   simp only [N]
   refine wl_run rfl (rp_move rfl (v := .bool false) rfl) ?_
   simp only [N]
   refine wl_skip (unwanted rfl (b := false) rfl (by decide)) ?_
   simp only [N]
   refine wl_skip (unwanted rfl (b := false) rfl (by decide)) ?_
   simp only [N]
   refine wl_run rfl (rp_pickF rfl rfl (v := .bool false) rfl) ?_
   simp only [N]
   refine wl_run rfl (rp_move rfl (v := .bool false) rfl) ?_
   simp only [N]
   refine wl_skip (unwanted rfl (b := false) rfl (by decide)) ?_
   simp only [N]
   refine wl_skip (unwanted rfl (b := false) rfl (by decide)) ?_
   simp only [N]
   refine wl_skip (unwanted rfl (b := false) rfl (by decide)) ?_
   simp only [N]
   refine wl_run rfl (rp_pickF rfl rfl (v := .bool false) rfl) ?_
   simp only [N]
   refine wl_run rfl (rp_move rfl (v := .bool false) rfl) ?_
   simp only [N]
   refine wl_skip (unwanted rfl (b := false) rfl (by decide)) ?_
   simp only [N]
   refine wl_skip (unwanted rfl (b := false) rfl (by decide)) ?_
   simp only [N]
   refine wl_skip (unwanted rfl (b := false) rfl (by decide)) ?_
   simp only [N]
   refine wl_skip (unwanted rfl (b := false) rfl (by decide)) ?_
   simp only [N]
   refine wl_run rfl (rp_pickF rfl rfl (v := .bool false) rfl) ?_
   simp only [N]
   refine wl_run rfl (rp_move rfl (v := .bool false) rfl) ?_
   simp only [N]
   refine wl_skip (unwanted rfl (b := false) rfl (by decide)) ?_
   simp only [N]
   refine wl_run rfl (rp_pickF rfl rfl (v := .bool false) rfl) ?_
   simp only [N]
   refine wl_run rfl (rp_assign rfl (v := .bool false) rfl) ?_
   simp only [N]
   refine wpList_nil ?_
   refine wp_ret ?_
   try simp only [Exit.inBlock, Exit.then, cutP]
   refine bodyPost_ret (results1 rfl (rv_tmp rfl)) rfl ?_
   have hF : (wrongF p what much t) = false := (hFa).trans (bf hg2)
   rw [hF]
   exact ⟨rfl, H.ext⟩

end Go.Proofs.YtpnaooajmdildaaGreatDoor
