/- Walks, printed by a program of this repository (wip/tool). -/
import Derived.Test.YtimonjemjhecoaaGreatDoorLB1
namespace Go.Proofs.YtimonjemjhecoaaGreatDoor
open Go.RowKit
open Go
attribute [local irreducible] wpList wpQuiet wpX Code.wp
set_option maxHeartbeats 1000000
set_option maxRecDepth 100000
set_option linter.unusedSimpArgs false
set_option linter.unusedVariables false

def awakeB_c0 : List Int := [(0 : Int), (0 : Int), (-1 : Int), (1 : Int), (1 : Int), (-2 : Int)]
def awakeB_c1 : List Int := [(0 : Int), (1 : Int), (0 : Int), (1 : Int), (-1 : Int), (-2 : Int)]
def awakeB (B_ : Prog) : Bool :=
  (bPlaysF ([(0 : UInt8), (2 : UInt8), (0 : UInt8), (1 : UInt8)] : List UInt8) (0 : UInt8) (0 : UInt8) awakeB_c1 B_)


theorem awakeB_spec (B_ : Prog) (hB : B_ = bufF_q1 0 0 0 0 0) (w : World) (hg_ : Glob w) :
    Calls Tryz.prog 12 #[] w fun e w' => e = .returned (.bool (awakeB B_)) ∧ Ext w w' := by
 have H := Own.start_ro w [Glob] (List.forall_mem_cons.2 ⟨fun w' hw => hg_.keep hw, fun _ h => by cases h⟩)
 have hc_awakeB_c0 : awakeB_c0.length = 6 := rfl
 have hc_awakeB_c1 : awakeB_c1.length = 6 := rfl
 go_enter Tryz.func12, Tryz.ntmps12
 refine wsr ?_
 refine wasg (.bool false) ?_; simp only [N]
 refine wnr ?_
 refine wl_callFA H rfl (rc_go Tryz.func36 (by kernel_rfl) rfl) (bufF_spec _) ?_
 clear H; intro x1_ w1 H
 simp only [N]
 replace H := H.infer (IsProg (bufF_q1 x1_.1 x1_.2.1 x1_.2.2.1 x1_.2.2.2.1 x1_.2.2.2.2)) (fun _ hR => FreshAt.now (ro_mem hR 0 rfl))
 refine wl_alloc H rfl rfl zv29 ?_
 clear H; intro b1 w2 hnb1 H; dsimp only [Value.cells] at H
 simp only [N]
 refine wl_storeV H 0 rfl rfl rfl rfl (((bufF_q1 x1_.1 x1_.2.1 x1_.2.2.1 x1_.2.2.2.1 x1_.2.2.2.2).cells).toArray) rfl (Prog.cells_one _) sz29 ?_
 clear H; intro w3 H; simp only [M] at H
 simp only [N]
 refine wnr ?_
 refine wr (rp_loadN H 0 rfl rfl rfl Tryz.underlying29 rfl sz29 (Nat.le_of_ble_eq_true rfl) (cs' := (bufF_q1 x1_.1 x1_.2.1 x1_.2.2.1 x1_.2.2.2.1 x1_.2.2.2.2).cells) rfl) ?_; simp only [N]
 refine wl_callE H rfl (rc_go Tryz.func18 (by kernel_rfl) rfl) (by have hq := startF_spec (bufF_q1 x1_.1 x1_.2.1 x1_.2.2.1 x1_.2.2.2.1 x1_.2.2.2.2) _ (H.ro_at 0 rfl) (H.ro_at 2 rfl); rw [show (startF (bufF_q1 x1_.1 x1_.2.1 x1_.2.2.1 x1_.2.2.2.1 x1_.2.2.2.2)) = (startF B_) from by rw [← startF_er (bufF_q1 x1_.1 x1_.2.1 x1_.2.2.1 x1_.2.2.2.1 x1_.2.2.2.2), show er (bufF_q1 x1_.1 x1_.2.1 x1_.2.2.1 x1_.2.2.2.1 x1_.2.2.2.2) = er B_ from (by rw [hB]; rfl), startF_er]] at hq; exact hq) ?_
 clear H; intro w4 H
 simp only [N]
 refine wmv (.tuple #[.agg (enc (startF B_).1).toArray, iv (startF B_).2]) ?_; simp only [N]
 refine wr (rp_extract rfl rfl (v := .agg (enc (startF B_).1).toArray) rfl) ?_; simp only [N]
 refine wr (rp_extract rfl rfl (v := iv (startF B_).2) rfl) ?_; simp only [N]
 refine wl_alloc H rfl rfl zv41 ?_
 clear H; intro b2 w5 hnb2 H; dsimp only [Value.cells] at H
 simp only [N]
 simp only [enc_replicate] at H
 refine wl_storeA H 0 rfl rfl rfl rfl (startF B_).1 rfl sz41 ?_
 clear H; intro w6 H; simp only [M] at H
 simp only [N]
 refine wasg (iv (startF B_).2) ?_; simp only [N]
 refine wnr ?_
 refine wr (rp_loadN H 1 rfl rfl rfl Tryz.underlying29 rfl sz29 (Nat.le_of_ble_eq_true rfl) (cs' := (bufF_q1 x1_.1 x1_.2.1 x1_.2.2.1 x1_.2.2.2.1 x1_.2.2.2.2).cells) rfl) ?_; simp only [N]
 refine wr (rp_loadWA H 0 rfl rfl rfl Tryz.underlying41 rfl sz41 rfl) ?_; simp only [N]
 refine wl_callFA H rfl (rc_go Tryz.func10 (by kernel_rfl) rfl) (by have hq := bMovesF_spec (bufF_q1 x1_.1 x1_.2.1 x1_.2.2.1 x1_.2.2.2.1 x1_.2.2.2.2) (2 : UInt8) ((startF B_).1) (by first | omega | simp [-List.reduceReplicate] <;> omega | simp [*, -List.reduceReplicate] <;> omega) _ (H.ro_at 0 rfl) (H.ro_at 2 rfl); rw [show (bMovesF (bufF_q1 x1_.1 x1_.2.1 x1_.2.2.1 x1_.2.2.2.1 x1_.2.2.2.2) (2 : UInt8) ((startF B_).1)) = (bMovesF B_ (2 : UInt8) ((startF B_).1)) from by rw [← bMovesF_er (bufF_q1 x1_.1 x1_.2.1 x1_.2.2.1 x1_.2.2.2.1 x1_.2.2.2.2), show er (bufF_q1 x1_.1 x1_.2.1 x1_.2.2.1 x1_.2.2.2.1 x1_.2.2.2.2) = er B_ from (by rw [hB]; rfl), bMovesF_er]] at hq; exact hq) ?_
 clear H; intro x2_ w7 H
 simp only [N]
 have hcx2_0 : (bMovesF B_ (2 : UInt8) ((startF B_).1)).length ≤ 140737488355328 := (FreshAt.now (H.ro_at 0 rfl)).2.2.1
 refine wasg ((⟨x2_.1, x2_.2, (bMovesF B_ (2 : UInt8) ((startF B_).1))⟩ : Sl Pass).val) ?_; simp only [N]
 refine wnr ?_
 refine wr (rp_loadN H 1 rfl rfl rfl Tryz.underlying29 rfl sz29 (Nat.le_of_ble_eq_true rfl) (cs' := (bufF_q1 x1_.1 x1_.2.1 x1_.2.2.1 x1_.2.2.2.1 x1_.2.2.2.2).cells) rfl) ?_; simp only [N]
 refine wr (rp_loadWA H 0 rfl rfl rfl Tryz.underlying41 rfl sz41 rfl) ?_; simp only [N]
 refine wr (rp_build rfl (vs := []) rfl (cs := #[bv (0 : UInt8), .bool false, bv (0 : UInt8)]) (by kernel_rfl)) ?_; simp only [N]
 refine wl_callE H rfl (rc_go Tryz.func13 (by kernel_rfl) rfl) (by have hq := bMoveF_spec (bufF_q1 x1_.1 x1_.2.1 x1_.2.2.1 x1_.2.2.2.1 x1_.2.2.2.2) (2 : UInt8) ((startF B_).1) (⟨(0 : UInt8), false, (0 : UInt8)⟩ : Pass) (by first | omega | simp [-List.reduceReplicate] <;> omega | simp [*, -List.reduceReplicate] <;> omega) _ (H.ro_at 1 rfl) (H.ro_at 3 rfl); rw [show (bMoveF (bufF_q1 x1_.1 x1_.2.1 x1_.2.2.1 x1_.2.2.2.1 x1_.2.2.2.2) (2 : UInt8) ((startF B_).1) (⟨(0 : UInt8), false, (0 : UInt8)⟩ : Pass)) = (bMoveF B_ (2 : UInt8) ((startF B_).1) (⟨(0 : UInt8), false, (0 : UInt8)⟩ : Pass)) from by rw [← bMoveF_er (bufF_q1 x1_.1 x1_.2.1 x1_.2.2.1 x1_.2.2.2.1 x1_.2.2.2.2), show er (bufF_q1 x1_.1 x1_.2.1 x1_.2.2.1 x1_.2.2.2.1 x1_.2.2.2.2) = er B_ from (by rw [hB]; rfl), bMoveF_er]] at hq; exact hq) ?_
 clear H; intro w8 H
 simp only [N]
 refine wmv (.tuple #[.agg (enc (bMoveF B_ (2 : UInt8) ((startF B_).1) (⟨(0 : UInt8), false, (0 : UInt8)⟩ : Pass)).1).toArray, iv (bMoveF B_ (2 : UInt8) ((startF B_).1) (⟨(0 : UInt8), false, (0 : UInt8)⟩ : Pass)).2]) ?_; simp only [N]
 refine wr (rp_extract rfl rfl (v := .agg (enc (bMoveF B_ (2 : UInt8) ((startF B_).1) (⟨(0 : UInt8), false, (0 : UInt8)⟩ : Pass)).1).toArray) rfl) ?_; simp only [N]
 refine wr (rp_extract rfl rfl (v := iv (bMoveF B_ (2 : UInt8) ((startF B_).1) (⟨(0 : UInt8), false, (0 : UInt8)⟩ : Pass)).2) rfl) ?_; simp only [N]
 refine wl_alloc H rfl rfl zv41 ?_
 clear H; intro b3 w9 hnb3 H; dsimp only [Value.cells] at H
 simp only [N]
 simp only [enc_replicate] at H
 refine wl_storeA H 0 rfl rfl rfl rfl (bMoveF B_ (2 : UInt8) ((startF B_).1) (⟨(0 : UInt8), false, (0 : UInt8)⟩ : Pass)).1 rfl sz41 ?_
 clear H; intro w10 H; simp only [M] at H
 simp only [N]
 refine wasg (iv (bMoveF B_ (2 : UInt8) ((startF B_).1) (⟨(0 : UInt8), false, (0 : UInt8)⟩ : Pass)).2) ?_; simp only [N]
 refine wnr ?_
 refine wr (rp_loadN H 2 rfl rfl rfl Tryz.underlying29 rfl sz29 (Nat.le_of_ble_eq_true rfl) (cs' := (bufF_q1 x1_.1 x1_.2.1 x1_.2.2.1 x1_.2.2.2.1 x1_.2.2.2.2).cells) rfl) ?_; simp only [N]
 refine wr (rp_loadWA H 1 rfl rfl rfl Tryz.underlying41 rfl sz41 rfl) ?_; simp only [N]
 refine wr (rp_build rfl (vs := []) rfl (cs := #[bv (0 : UInt8), .bool false, bv (0 : UInt8)]) (by kernel_rfl)) ?_; simp only [N]
 refine wl_callE H rfl (rc_go Tryz.func13 (by kernel_rfl) rfl) (by have hq := bMoveF_spec (bufF_q1 x1_.1 x1_.2.1 x1_.2.2.1 x1_.2.2.2.1 x1_.2.2.2.2) (4 : UInt8) ((startF B_).1) (⟨(0 : UInt8), false, (0 : UInt8)⟩ : Pass) (by first | omega | simp [-List.reduceReplicate] <;> omega | simp [*, -List.reduceReplicate] <;> omega) _ (H.ro_at 1 rfl) (H.ro_at 3 rfl); rw [show (bMoveF (bufF_q1 x1_.1 x1_.2.1 x1_.2.2.1 x1_.2.2.2.1 x1_.2.2.2.2) (4 : UInt8) ((startF B_).1) (⟨(0 : UInt8), false, (0 : UInt8)⟩ : Pass)) = (bMoveF B_ (4 : UInt8) ((startF B_).1) (⟨(0 : UInt8), false, (0 : UInt8)⟩ : Pass)) from by rw [← bMoveF_er (bufF_q1 x1_.1 x1_.2.1 x1_.2.2.1 x1_.2.2.2.1 x1_.2.2.2.2), show er (bufF_q1 x1_.1 x1_.2.1 x1_.2.2.1 x1_.2.2.2.1 x1_.2.2.2.2) = er B_ from (by rw [hB]; rfl), bMoveF_er]] at hq; exact hq) ?_
 clear H; intro w11 H
 simp only [N]
 refine wmv (.tuple #[.agg (enc (bMoveF B_ (4 : UInt8) ((startF B_).1) (⟨(0 : UInt8), false, (0 : UInt8)⟩ : Pass)).1).toArray, iv (bMoveF B_ (4 : UInt8) ((startF B_).1) (⟨(0 : UInt8), false, (0 : UInt8)⟩ : Pass)).2]) ?_; simp only [N]
 refine wr (rp_extract rfl rfl (v := .agg (enc (bMoveF B_ (4 : UInt8) ((startF B_).1) (⟨(0 : UInt8), false, (0 : UInt8)⟩ : Pass)).1).toArray) rfl) ?_; simp only [N]
 refine wr (rp_extract rfl rfl (v := iv (bMoveF B_ (4 : UInt8) ((startF B_).1) (⟨(0 : UInt8), false, (0 : UInt8)⟩ : Pass)).2) rfl) ?_; simp only [N]
 refine wl_alloc H rfl rfl zv41 ?_
 clear H; intro b4 w12 hnb4 H; dsimp only [Value.cells] at H
 simp only [N]
 simp only [enc_replicate] at H
 refine wl_storeA H 0 rfl rfl rfl rfl (bMoveF B_ (4 : UInt8) ((startF B_).1) (⟨(0 : UInt8), false, (0 : UInt8)⟩ : Pass)).1 rfl sz41 ?_
 clear H; intro w13 H; simp only [M] at H
 simp only [N]
 refine wasg (iv (bMoveF B_ (4 : UInt8) ((startF B_).1) (⟨(0 : UInt8), false, (0 : UInt8)⟩ : Pass)).2) ?_; simp only [N]
 refine wnr ?_
 refine wmv (iv (bMoveF B_ (2 : UInt8) ((startF B_).1) (⟨(0 : UInt8), false, (0 : UInt8)⟩ : Pass)).2) ?_; simp only [N]
 refine wr (rp_int_eql rfl (bMoveF B_ (2 : UInt8) ((startF B_).1) (⟨(0 : UInt8), false, (0 : UInt8)⟩ : Pass)).2 (0 : Int) rfl rfl) ?_; simp only [N]
 refine wmv (.bool ((bMoveF B_ (2 : UInt8) ((startF B_).1) (⟨(0 : UInt8), false, (0 : UInt8)⟩ : Pass)).2 == (0 : Int))) ?_; simp only [N]
 refine wl_g (wn_t rfl rfl) (v := iv (bMoveF B_ (4 : UInt8) ((startF B_).1) (⟨(0 : UInt8), false, (0 : UInt8)⟩ : Pass)).2) (fun hg => rp_move rfl (v := iv (bMoveF B_ (4 : UInt8) ((startF B_).1) (⟨(0 : UInt8), false, (0 : UInt8)⟩ : Pass)).2) rfl) ?_; simp only [N]
 refine wl_g (wn_t rfl rfl) (v := .bool ((bMoveF B_ (4 : UInt8) ((startF B_).1) (⟨(0 : UInt8), false, (0 : UInt8)⟩ : Pass)).2 == (2 : Int))) (fun hg => by have x2 : (bMoveF B_ (2 : UInt8) ((startF B_).1) (⟨(0 : UInt8), false, (0 : UInt8)⟩ : Pass)).2 = (0 : Int) := (by simpa using hg); exact (by simp only [gv_t hg]; exact rp_int_eql rfl (bMoveF B_ (4 : UInt8) ((startF B_).1) (⟨(0 : UInt8), false, (0 : UInt8)⟩ : Pass)).2 (2 : Int) rfl rfl)) ?_; simp only [N]
 refine wr (rp_pickA rfl (p := ((bMoveF B_ (2 : UInt8) ((startF B_).1) (⟨(0 : UInt8), false, (0 : UInt8)⟩ : Pass)).2 == (0 : Int))) (q := ((bMoveF B_ (4 : UInt8) ((startF B_).1) (⟨(0 : UInt8), false, (0 : UInt8)⟩ : Pass)).2 == (2 : Int))) rfl rfl rfl) ?_; simp only [N]
 refine wmv (.bool (((bMoveF B_ (2 : UInt8) ((startF B_).1) (⟨(0 : UInt8), false, (0 : UInt8)⟩ : Pass)).2 == (0 : Int)) && ((bMoveF B_ (4 : UInt8) ((startF B_).1) (⟨(0 : UInt8), false, (0 : UInt8)⟩ : Pass)).2 == (2 : Int)))) ?_; simp only [N]
 refine wl_g (wn_t rfl rfl) (v := (⟨x2_.1, x2_.2, (bMovesF B_ (2 : UInt8) ((startF B_).1))⟩ : Sl Pass).val) (fun hg => rp_move rfl (v := (⟨x2_.1, x2_.2, (bMovesF B_ (2 : UInt8) ((startF B_).1))⟩ : Sl Pass).val) rfl) ?_; simp only [N]
 have hg1 : (((bMoveF B_ (2 : UInt8) ((startF B_).1) (⟨(0 : UInt8), false, (0 : UInt8)⟩ : Pass)).2 == (0 : Int)) && ((bMoveF B_ (4 : UInt8) ((startF B_).1) (⟨(0 : UInt8), false, (0 : UInt8)⟩ : Pass)).2 == (2 : Int))) = true := by rw [hB]; kernel_rfl
 simp only [(andl hg1), gv_t (andl hg1), hg1, gv_t hg1, (andr hg1), Bool.true_and, Bool.and_true]
 refine wl_xallocF H rfl (xa_buildSlice rfl Tryz.underlying79 sz3 zv3 (by decide) (by decide) (vs := [(0, iv (0 : Int)), (1, iv (1 : Int))]) rfl (cs := #[iv (0 : Int), iv (1 : Int)]) (by kernel_rfl)) ?_
 clear H; intro b5 w14 hnb5 H
 simp only [N]
 refine wl_callFA H rfl (rc_go Tryz.func37 (by kernel_rfl) rfl) (ofF_spec (⟨some ⟨b5, 0, none⟩, 2, [(0 : Int), (1 : Int)]⟩ : Sl Int) (by first | exact Nat.le_of_ble_eq_true rfl | rfl) (by first | exact Nat.le_of_ble_eq_true rfl | rfl) _ (slin_blk (H.ro_at 0 rfl) ⟨[], rfl⟩ eIntN (Nat.le_of_ble_eq_true rfl))) ?_
 clear H; intro x3_ w15 H
 simp only [N]
 have hcx3_0 : (ofF ([(0 : Int), (1 : Int)] : List Int)).length ≤ 140737488355328 := (FreshAt.now (H.ro_at 0 rfl)).2.2.1
 refine wl_callE H rfl (rc_go Tryz.func27 (by kernel_rfl) rfl) (passesEq_spec (⟨x2_.1, x2_.2, (bMovesF B_ (2 : UInt8) ((startF B_).1))⟩ : Sl Pass) (⟨x3_.1, x3_.2, (ofF ([(0 : Int), (1 : Int)] : List Int))⟩ : Sl Pass) _ (FreshAt.now (H.ro_at 2 rfl)) (FreshAt.now (H.ro_at 0 rfl))) ?_
 clear H; intro w16 H
 simp only [N]
 refine wr (rp_pickT rfl rfl (u := .bool (passesEq (bMovesF B_ (2 : UInt8) ((startF B_).1)) (ofF ([(0 : Int), (1 : Int)] : List Int)))) rfl) ?_; simp only [N]
 refine wmv (.bool (passesEq (bMovesF B_ (2 : UInt8) ((startF B_).1)) (ofF ([(0 : Int), (1 : Int)] : List Int)))) ?_; simp only [N]
 refine wl_g (wn_t rfl rfl) (v := .agg ((bufF_q1 x1_.1 x1_.2.1 x1_.2.2.1 x1_.2.2.2.1 x1_.2.2.2.2).cells).toArray) (fun hg => rp_loadN H 3 rfl rfl rfl Tryz.underlying29 rfl sz29 (Nat.le_of_ble_eq_true rfl) (cs' := (bufF_q1 x1_.1 x1_.2.1 x1_.2.2.1 x1_.2.2.2.1 x1_.2.2.2.2).cells) rfl) ?_; simp only [N]
 refine wl_g (wn_t rfl rfl) (v := .agg (enc (bMoveF B_ (2 : UInt8) ((startF B_).1) (⟨(0 : UInt8), false, (0 : UInt8)⟩ : Pass)).1).toArray) (fun hg => rp_loadWA H 1 rfl rfl rfl Tryz.underlying41 rfl sz41 rfl) ?_; simp only [N]
 have hg2 : (passesEq (bMovesF B_ (2 : UInt8) ((startF B_).1)) (ofF ([(0 : Int), (1 : Int)] : List Int))) = true := by rw [hB]; kernel_rfl
 simp only [hg2, gv_t hg2, Bool.true_and, Bool.and_true]
 refine wl_callFA H rfl (rc_go Tryz.func10 (by kernel_rfl) rfl) (by have hq := bMovesF_spec (bufF_q1 x1_.1 x1_.2.1 x1_.2.2.1 x1_.2.2.2.1 x1_.2.2.2.2) (2 : UInt8) ((bMoveF B_ (2 : UInt8) ((startF B_).1) (⟨(0 : UInt8), false, (0 : UInt8)⟩ : Pass)).1) (by first | omega | simp [-List.reduceReplicate] <;> omega | simp [*, -List.reduceReplicate] <;> omega) _ (H.ro_at 3 rfl) (H.ro_at 5 rfl); rw [show (bMovesF (bufF_q1 x1_.1 x1_.2.1 x1_.2.2.1 x1_.2.2.2.1 x1_.2.2.2.2) (2 : UInt8) ((bMoveF B_ (2 : UInt8) ((startF B_).1) (⟨(0 : UInt8), false, (0 : UInt8)⟩ : Pass)).1)) = (bMovesF B_ (2 : UInt8) ((bMoveF B_ (2 : UInt8) ((startF B_).1) (⟨(0 : UInt8), false, (0 : UInt8)⟩ : Pass)).1)) from by rw [← bMovesF_er (bufF_q1 x1_.1 x1_.2.1 x1_.2.2.1 x1_.2.2.2.1 x1_.2.2.2.2), show er (bufF_q1 x1_.1 x1_.2.1 x1_.2.2.1 x1_.2.2.2.1 x1_.2.2.2.2) = er B_ from (by rw [hB]; rfl), bMovesF_er]] at hq; exact hq) ?_
 clear H; intro x5_ w17 H
 simp only [N]
 have hcx5_0 : (bMovesF B_ (2 : UInt8) ((bMoveF B_ (2 : UInt8) ((startF B_).1) (⟨(0 : UInt8), false, (0 : UInt8)⟩ : Pass)).1)).length ≤ 140737488355328 := (FreshAt.now (H.ro_at 0 rfl)).2.2.1
 refine wl_xallocF H rfl (xa_buildSlice rfl Tryz.underlying79 sz3 zv3 (by decide) (by decide) (vs := [(0, iv (0 : Int)), (1, iv (-1 : Int)), (2, iv (1 : Int))]) rfl (cs := #[iv (0 : Int), iv (-1 : Int), iv (1 : Int)]) (by kernel_rfl)) ?_
 clear H; intro b6 w18 hnb6 H
 simp only [N]
 refine wl_callFA H rfl (rc_go Tryz.func37 (by kernel_rfl) rfl) (ofF_spec (⟨some ⟨b6, 0, none⟩, 3, [(0 : Int), (-1 : Int), (1 : Int)]⟩ : Sl Int) (by first | exact Nat.le_of_ble_eq_true rfl | rfl) (by first | exact Nat.le_of_ble_eq_true rfl | rfl) _ (slin_blk (H.ro_at 0 rfl) ⟨[], rfl⟩ eIntN (Nat.le_of_ble_eq_true rfl))) ?_
 clear H; intro x6_ w19 H
 simp only [N]
 have hcx6_0 : (ofF ([(0 : Int), (-1 : Int), (1 : Int)] : List Int)).length ≤ 140737488355328 := (FreshAt.now (H.ro_at 0 rfl)).2.2.1
 refine wl_callE H rfl (rc_go Tryz.func27 (by kernel_rfl) rfl) (passesEq_spec (⟨x5_.1, x5_.2, (bMovesF B_ (2 : UInt8) ((bMoveF B_ (2 : UInt8) ((startF B_).1) (⟨(0 : UInt8), false, (0 : UInt8)⟩ : Pass)).1))⟩ : Sl Pass) (⟨x6_.1, x6_.2, (ofF ([(0 : Int), (-1 : Int), (1 : Int)] : List Int))⟩ : Sl Pass) _ (FreshAt.now (H.ro_at 2 rfl)) (FreshAt.now (H.ro_at 0 rfl))) ?_
 clear H; intro w20 H
 simp only [N]
 refine wr (rp_pickT rfl rfl (u := .bool (passesEq (bMovesF B_ (2 : UInt8) ((bMoveF B_ (2 : UInt8) ((startF B_).1) (⟨(0 : UInt8), false, (0 : UInt8)⟩ : Pass)).1)) (ofF ([(0 : Int), (-1 : Int), (1 : Int)] : List Int)))) rfl) ?_; simp only [N]
 refine wmv (.bool (passesEq (bMovesF B_ (2 : UInt8) ((bMoveF B_ (2 : UInt8) ((startF B_).1) (⟨(0 : UInt8), false, (0 : UInt8)⟩ : Pass)).1)) (ofF ([(0 : Int), (-1 : Int), (1 : Int)] : List Int)))) ?_; simp only [N]
 refine wl_g (wn_t rfl rfl) (v := .pointer (some ⟨b3, 36, none⟩)) (fun hg => rp_fieldAddr rfl Tryz.underlying41 rfl 36 rfl sz34 rfl 36 rfl) ?_; simp only [N]
 refine wl_g (wn_t rfl rfl) (v := .pointer (some ⟨b3, 36, none⟩)) (fun hg => by simp only [gv_t hg]; exact rp_indexAddr_arr rfl Tryz.underlying34 sz5 rfl 0 rfl (by omega) 36 (by omega)) ?_; simp only [N]
 refine wl_g (wn_t rfl rfl) (v := bv ((bMoveF B_ (2 : UInt8) ((startF B_).1) (⟨(0 : UInt8), false, (0 : UInt8)⟩ : Pass)).1.getD 36 0)) (fun hg => by simp only [gv_t hg]; exact rp_load1A H 1 rfl rfl rfl Tryz.underlying5 rfl 36 rfl) ?_; simp only [N]
 refine wl_g (wn_t rfl rfl) (v := .bool (((bMoveF B_ (2 : UInt8) ((startF B_).1) (⟨(0 : UInt8), false, (0 : UInt8)⟩ : Pass)).1.getD 36 0) == (0 : UInt8))) (fun hg => by simp only [gv_t hg]; exact rp_u8_eql rfl ((bMoveF B_ (2 : UInt8) ((startF B_).1) (⟨(0 : UInt8), false, (0 : UInt8)⟩ : Pass)).1.getD 36 0) (0 : UInt8) rfl rfl) ?_; simp only [N]
 refine wr (rp_pickA rfl (p := (passesEq (bMovesF B_ (2 : UInt8) ((bMoveF B_ (2 : UInt8) ((startF B_).1) (⟨(0 : UInt8), false, (0 : UInt8)⟩ : Pass)).1)) (ofF ([(0 : Int), (-1 : Int), (1 : Int)] : List Int)))) (q := (((bMoveF B_ (2 : UInt8) ((startF B_).1) (⟨(0 : UInt8), false, (0 : UInt8)⟩ : Pass)).1.getD 36 0) == (0 : UInt8))) rfl rfl rfl) ?_; simp only [N]
 refine wmv (.bool ((passesEq (bMovesF B_ (2 : UInt8) ((bMoveF B_ (2 : UInt8) ((startF B_).1) (⟨(0 : UInt8), false, (0 : UInt8)⟩ : Pass)).1)) (ofF ([(0 : Int), (-1 : Int), (1 : Int)] : List Int))) && (((bMoveF B_ (2 : UInt8) ((startF B_).1) (⟨(0 : UInt8), false, (0 : UInt8)⟩ : Pass)).1.getD 36 0) == (0 : UInt8)))) ?_; simp only [N]
 refine wl_g (wn_t rfl rfl) (v := .agg (enc (bMoveF B_ (2 : UInt8) ((startF B_).1) (⟨(0 : UInt8), false, (0 : UInt8)⟩ : Pass)).1).toArray) (fun hg => rp_loadWA H 1 rfl rfl rfl Tryz.underlying41 rfl sz41 rfl) ?_; simp only [N]
 refine wl_gE H (wn_t rfl rfl) (fun hg => fun w => by simp only [gv_t hg]; exact rc_go Tryz.func15 (by kernel_rfl) rfl w) (v := bv (seenF ((bMoveF B_ (2 : UInt8) ((startF B_).1) (⟨(0 : UInt8), false, (0 : UInt8)⟩ : Pass)).1) (0 : Int) (0 : UInt8))) (fun hg => by have x6 : ((bMoveF B_ (2 : UInt8) ((startF B_).1) (⟨(0 : UInt8), false, (0 : UInt8)⟩ : Pass)).1.getD 36 0).toNat = 0 := u8_eq (andr hg); exact (seenF_spec ((bMoveF B_ (2 : UInt8) ((startF B_).1) (⟨(0 : UInt8), false, (0 : UInt8)⟩ : Pass)).1) (0 : Int) (0 : UInt8) (by first | omega | simp [-List.reduceReplicate] <;> omega | simp [*, -List.reduceReplicate] <;> omega) _ )) ?_
 clear H; intro w21 H
 simp only [N]
 refine wl_g (wn_t rfl rfl) (v := .bool ((seenF ((bMoveF B_ (2 : UInt8) ((startF B_).1) (⟨(0 : UInt8), false, (0 : UInt8)⟩ : Pass)).1) (0 : Int) (0 : UInt8)) == (1 : UInt8))) (fun hg => by have x7 : ((bMoveF B_ (2 : UInt8) ((startF B_).1) (⟨(0 : UInt8), false, (0 : UInt8)⟩ : Pass)).1.getD 36 0).toNat = 0 := u8_eq (andr hg); exact (by simp only [gv_t hg]; exact rp_u8_eql rfl (seenF ((bMoveF B_ (2 : UInt8) ((startF B_).1) (⟨(0 : UInt8), false, (0 : UInt8)⟩ : Pass)).1) (0 : Int) (0 : UInt8)) (1 : UInt8) rfl rfl)) ?_; simp only [N]
 refine wr (rp_pickA rfl (p := ((passesEq (bMovesF B_ (2 : UInt8) ((bMoveF B_ (2 : UInt8) ((startF B_).1) (⟨(0 : UInt8), false, (0 : UInt8)⟩ : Pass)).1)) (ofF ([(0 : Int), (-1 : Int), (1 : Int)] : List Int))) && (((bMoveF B_ (2 : UInt8) ((startF B_).1) (⟨(0 : UInt8), false, (0 : UInt8)⟩ : Pass)).1.getD 36 0) == (0 : UInt8)))) (q := ((seenF ((bMoveF B_ (2 : UInt8) ((startF B_).1) (⟨(0 : UInt8), false, (0 : UInt8)⟩ : Pass)).1) (0 : Int) (0 : UInt8)) == (1 : UInt8))) rfl rfl rfl) ?_; simp only [N]
 refine wmv (.bool (((passesEq (bMovesF B_ (2 : UInt8) ((bMoveF B_ (2 : UInt8) ((startF B_).1) (⟨(0 : UInt8), false, (0 : UInt8)⟩ : Pass)).1)) (ofF ([(0 : Int), (-1 : Int), (1 : Int)] : List Int))) && (((bMoveF B_ (2 : UInt8) ((startF B_).1) (⟨(0 : UInt8), false, (0 : UInt8)⟩ : Pass)).1.getD 36 0) == (0 : UInt8))) && ((seenF ((bMoveF B_ (2 : UInt8) ((startF B_).1) (⟨(0 : UInt8), false, (0 : UInt8)⟩ : Pass)).1) (0 : Int) (0 : UInt8)) == (1 : UInt8)))) ?_; simp only [N]
 refine wl_g (wn_t rfl rfl) (v := .agg (enc (bMoveF B_ (2 : UInt8) ((startF B_).1) (⟨(0 : UInt8), false, (0 : UInt8)⟩ : Pass)).1).toArray) (fun hg => rp_loadWA H 1 rfl rfl rfl Tryz.underlying41 rfl sz41 rfl) ?_; simp only [N]
 refine wl_gE H (wn_t rfl rfl) (fun hg => fun w => by simp only [gv_t hg]; exact rc_go Tryz.func15 (by kernel_rfl) rfl w) (v := bv (seenF ((bMoveF B_ (2 : UInt8) ((startF B_).1) (⟨(0 : UInt8), false, (0 : UInt8)⟩ : Pass)).1) (1 : Int) (0 : UInt8))) (fun hg => by have x10 : ((bMoveF B_ (2 : UInt8) ((startF B_).1) (⟨(0 : UInt8), false, (0 : UInt8)⟩ : Pass)).1.getD 36 0).toNat = 0 := u8_eq (andr (andl hg)); have x11 : (seenF ((bMoveF B_ (2 : UInt8) ((startF B_).1) (⟨(0 : UInt8), false, (0 : UInt8)⟩ : Pass)).1) (0 : Int) (0 : UInt8)).toNat = 1 := u8_eq (andr hg); exact (seenF_spec ((bMoveF B_ (2 : UInt8) ((startF B_).1) (⟨(0 : UInt8), false, (0 : UInt8)⟩ : Pass)).1) (1 : Int) (0 : UInt8) (by first | omega | simp [-List.reduceReplicate] <;> omega | simp [*, -List.reduceReplicate] <;> omega) _ )) ?_
 clear H; intro w22 H
 simp only [N]
 refine wl_g (wn_t rfl rfl) (v := .bool ((seenF ((bMoveF B_ (2 : UInt8) ((startF B_).1) (⟨(0 : UInt8), false, (0 : UInt8)⟩ : Pass)).1) (1 : Int) (0 : UInt8)) == (0 : UInt8))) (fun hg => by have x12 : ((bMoveF B_ (2 : UInt8) ((startF B_).1) (⟨(0 : UInt8), false, (0 : UInt8)⟩ : Pass)).1.getD 36 0).toNat = 0 := u8_eq (andr (andl hg)); have x13 : (seenF ((bMoveF B_ (2 : UInt8) ((startF B_).1) (⟨(0 : UInt8), false, (0 : UInt8)⟩ : Pass)).1) (0 : Int) (0 : UInt8)).toNat = 1 := u8_eq (andr hg); exact (by simp only [gv_t hg]; exact rp_u8_eql rfl (seenF ((bMoveF B_ (2 : UInt8) ((startF B_).1) (⟨(0 : UInt8), false, (0 : UInt8)⟩ : Pass)).1) (1 : Int) (0 : UInt8)) (0 : UInt8) rfl rfl)) ?_; simp only [N]
 refine wr (rp_pickA rfl (p := (((passesEq (bMovesF B_ (2 : UInt8) ((bMoveF B_ (2 : UInt8) ((startF B_).1) (⟨(0 : UInt8), false, (0 : UInt8)⟩ : Pass)).1)) (ofF ([(0 : Int), (-1 : Int), (1 : Int)] : List Int))) && (((bMoveF B_ (2 : UInt8) ((startF B_).1) (⟨(0 : UInt8), false, (0 : UInt8)⟩ : Pass)).1.getD 36 0) == (0 : UInt8))) && ((seenF ((bMoveF B_ (2 : UInt8) ((startF B_).1) (⟨(0 : UInt8), false, (0 : UInt8)⟩ : Pass)).1) (0 : Int) (0 : UInt8)) == (1 : UInt8)))) (q := ((seenF ((bMoveF B_ (2 : UInt8) ((startF B_).1) (⟨(0 : UInt8), false, (0 : UInt8)⟩ : Pass)).1) (1 : Int) (0 : UInt8)) == (0 : UInt8))) rfl rfl rfl) ?_; simp only [N]
 refine wmv (.bool ((((passesEq (bMovesF B_ (2 : UInt8) ((bMoveF B_ (2 : UInt8) ((startF B_).1) (⟨(0 : UInt8), false, (0 : UInt8)⟩ : Pass)).1)) (ofF ([(0 : Int), (-1 : Int), (1 : Int)] : List Int))) && (((bMoveF B_ (2 : UInt8) ((startF B_).1) (⟨(0 : UInt8), false, (0 : UInt8)⟩ : Pass)).1.getD 36 0) == (0 : UInt8))) && ((seenF ((bMoveF B_ (2 : UInt8) ((startF B_).1) (⟨(0 : UInt8), false, (0 : UInt8)⟩ : Pass)).1) (0 : Int) (0 : UInt8)) == (1 : UInt8))) && ((seenF ((bMoveF B_ (2 : UInt8) ((startF B_).1) (⟨(0 : UInt8), false, (0 : UInt8)⟩ : Pass)).1) (1 : Int) (0 : UInt8)) == (0 : UInt8)))) ?_; simp only [N]
 have hg3 : ((((passesEq (bMovesF B_ (2 : UInt8) ((bMoveF B_ (2 : UInt8) ((startF B_).1) (⟨(0 : UInt8), false, (0 : UInt8)⟩ : Pass)).1)) (ofF ([(0 : Int), (-1 : Int), (1 : Int)] : List Int))) && (((bMoveF B_ (2 : UInt8) ((startF B_).1) (⟨(0 : UInt8), false, (0 : UInt8)⟩ : Pass)).1.getD 36 0) == (0 : UInt8))) && ((seenF ((bMoveF B_ (2 : UInt8) ((startF B_).1) (⟨(0 : UInt8), false, (0 : UInt8)⟩ : Pass)).1) (0 : Int) (0 : UInt8)) == (1 : UInt8))) && ((seenF ((bMoveF B_ (2 : UInt8) ((startF B_).1) (⟨(0 : UInt8), false, (0 : UInt8)⟩ : Pass)).1) (1 : Int) (0 : UInt8)) == (0 : UInt8))) = true := by rw [hB]; kernel_rfl
 simp only [(andl (andl (andl hg3))), gv_t (andl (andl (andl hg3))), (andl (andl hg3)), gv_t (andl (andl hg3)), (andl hg3), gv_t (andl hg3), hg3, (andr (andl (andl hg3))), (andr (andl hg3)), (andr hg3), Bool.true_and, Bool.and_true]
 refine wl_xallocF H rfl (xa_buildSlice rfl Tryz.underlying79 sz3 zv3 (by decide) (by decide) (vs := [(0, iv (0 : Int)), (1, iv (0 : Int)), (2, iv (-1 : Int)), (3, iv (1 : Int)), (4, iv (1 : Int)), (5, iv (-2 : Int))]) rfl (cs := #[iv (0 : Int), iv (0 : Int), iv (-1 : Int), iv (1 : Int), iv (1 : Int), iv (-2 : Int)]) (by kernel_rfl)) ?_
 clear H; intro b7 w23 hnb7 H
 simp only [N]
 refine wl_callE H rfl (rc_go Tryz.func38 (by kernel_rfl) rfl) (bPlaysF_spec (⟨none, 0, []⟩ : Sl UInt8) (0 : UInt8) (1 : UInt8) (⟨some ⟨b7, 0, none⟩, 6, awakeB_c0⟩ : Sl Int) B_ hB (by first | exact Nat.le_of_ble_eq_true rfl | rfl) (by first | exact Nat.le_of_ble_eq_true rfl | rfl) _ (slin_nil eByteN) (slin_blk (H.ro_at 0 rfl) ⟨[], rfl⟩ eIntN (Nat.le_of_ble_eq_true rfl)) (H.ro_at 9 rfl)) ?_
 clear H; intro w24 H
 simp only [N]
 refine wr (rp_pickT rfl rfl (u := .bool (bPlaysF ([]) (0 : UInt8) (1 : UInt8) awakeB_c0 B_)) rfl) ?_; simp only [N]
 refine wmv (.bool (bPlaysF ([]) (0 : UInt8) (1 : UInt8) awakeB_c0 B_)) ?_; simp only [N]
 have hg4 : (bPlaysF ([]) (0 : UInt8) (1 : UInt8) awakeB_c0 B_) = true := by rw [hB]; kernel_rfl
 simp only [hg4, Bool.true_and, Bool.and_true]
 refine wl_xallocF H rfl (xa_buildSlice rfl Tryz.underlying23 sz5 zv5 (by decide) (by decide) (vs := [(0, bv (0 : UInt8)), (1, bv (2 : UInt8)), (2, bv (0 : UInt8)), (3, bv (1 : UInt8))]) rfl (cs := #[bv (0 : UInt8), bv (2 : UInt8), bv (0 : UInt8), bv (1 : UInt8)]) (by kernel_rfl)) ?_
 clear H; intro b8 w25 hnb8 H
 simp only [N]
 refine wl_xallocF H rfl (xa_buildSlice rfl Tryz.underlying79 sz3 zv3 (by decide) (by decide) (vs := [(0, iv (0 : Int)), (1, iv (1 : Int)), (2, iv (0 : Int)), (3, iv (1 : Int)), (4, iv (-1 : Int)), (5, iv (-2 : Int))]) rfl (cs := #[iv (0 : Int), iv (1 : Int), iv (0 : Int), iv (1 : Int), iv (-1 : Int), iv (-2 : Int)]) (by kernel_rfl)) ?_
 clear H; intro b9 w26 hnb9 H
 simp only [N]
 refine wl_callE H rfl (rc_go Tryz.func38 (by kernel_rfl) rfl) (bPlaysF_spec (⟨some ⟨b8, 0, none⟩, 4, [(0 : UInt8), (2 : UInt8), (0 : UInt8), (1 : UInt8)]⟩ : Sl UInt8) (0 : UInt8) (0 : UInt8) (⟨some ⟨b9, 0, none⟩, 6, awakeB_c1⟩ : Sl Int) B_ hB (by first | exact Nat.le_of_ble_eq_true rfl | rfl) (by first | exact Nat.le_of_ble_eq_true rfl | rfl) _ (slin_blk (H.ro_at 1 rfl) ⟨[], rfl⟩ eByteN (Nat.le_of_ble_eq_true rfl)) (slin_blk (H.ro_at 0 rfl) ⟨[], rfl⟩ eIntN (Nat.le_of_ble_eq_true rfl)) (H.ro_at 11 rfl)) ?_
 clear H; intro w27 H
 simp only [N]
 refine wr (rp_pickT rfl rfl (u := .bool (bPlaysF ([(0 : UInt8), (2 : UInt8), (0 : UInt8), (1 : UInt8)] : List UInt8) (0 : UInt8) (0 : UInt8) awakeB_c1 B_)) rfl) ?_; simp only [N]
 refine wasg (.bool (bPlaysF ([(0 : UInt8), (2 : UInt8), (0 : UInt8), (1 : UInt8)] : List UInt8) (0 : UInt8) (0 : UInt8) awakeB_c1 B_)) ?_; simp only [N]
 refine wpList_nil ?_
 refine wp_ret ?_
 try simp only [Exit.inBlock, Exit.then, cutP]
 refine bodyPost_ret (results1 rfl (rv_tmp rfl)) rfl ?_
 have hF : (awakeB B_) = (bPlaysF ([(0 : UInt8), (2 : UInt8), (0 : UInt8), (1 : UInt8)] : List UInt8) (0 : UInt8) (0 : UInt8) awakeB_c1 B_) := rfl
 rw [hF]
 exact ⟨rfl, H.ext⟩

theorem awakeB_true : awakeB (bufF_q1 0 0 0 0 0) = true := by kernel_rfl
theorem awakeB_spec' (w : World) (hg : Glob w) : Calls Tryz.prog 12 #[] w fun e w' => e = .returned (.bool true) ∧ Ext w w' := by
  have h := awakeB_spec _ rfl w hg
  rw [awakeB_true] at h
  exact h

end Go.Proofs.YtimonjemjhecoaaGreatDoor
