/- Walks, printed by a program of this repository (wip/tool). -/
import Derived.Test.YtpnaooajmdildaaGreatDoorLA
namespace Go.Proofs.YtpnaooajmdildaaGreatDoor
open Go.RowKit
open Go
attribute [local irreducible] wpList wpQuiet wpX Code.wp
set_option maxHeartbeats 1000000
set_option maxRecDepth 100000
set_option linter.unusedSimpArgs false
set_option linter.unusedVariables false

def awakeF_a (B_ : Prog) : Bool :=
  (playsF ([(1 : UInt8), (1 : UInt8)] : List UInt8) (1 : UInt8) (0 : UInt8) ([(1 : Int), (1 : Int), (0 : Int), (0 : Int)] : List Int) B_)
def awakeF (B_ : Prog) : Bool :=
  awakeF_a B_


theorem awakeF_spec (B_ : Prog) (hB : B_ = bufF_q1 0 0 0 0 0) (w : World) (hg_ : (Glob) w) :
    Calls Tryz.prog 13 #[] w fun e w' => e = .returned (.bool ((awakeF B_))) ∧ Ext w w' := by
 have H := Own.start_ro w [Glob] (List.forall_mem_cons.2 ⟨fun w' hw => hg_.keep hw, fun _ h => by cases h⟩)
 go_enter Tryz.func13, Tryz.ntmps13
 refine wp_seq ?_
 refine wp_region_lit ?_
 refine wl_run rfl (rp_assign rfl (v := .bool false) rfl) ?_
 simp only [N]
 refine wpList_nil ?_
 refine wp_seq ?_
 refine wp_region_lit ?_
 refine wl_callFA H rfl (rc_go Tryz.func43 (by kernel_rfl) rfl) (bufF_spec _) ?_
 clear H; intro x1_ w1 H
 simp only [N]
 replace H := H.infer (IsProg (bufF_q1 x1_.1 x1_.2.1 x1_.2.2.1 x1_.2.2.2.1 x1_.2.2.2.2)) (fun _ hR => FreshAt.now (ro_mem hR 0 rfl))
 refine wl_callE H rfl (rc_go Tryz.func19 (by kernel_rfl) rfl) ((by have hq := startF_spec (bufF_q1 x1_.1 x1_.2.1 x1_.2.2.1 x1_.2.2.2.1 x1_.2.2.2.2) _ (H.ro_at 0 rfl) (H.ro_at 2 rfl); rw [show (startF (bufF_q1 x1_.1 x1_.2.1 x1_.2.2.1 x1_.2.2.2.1 x1_.2.2.2.2)) = (startF B_) from by rw [← startF_er (bufF_q1 x1_.1 x1_.2.1 x1_.2.2.1 x1_.2.2.2.1 x1_.2.2.2.2), show er (bufF_q1 x1_.1 x1_.2.1 x1_.2.2.1 x1_.2.2.2.1 x1_.2.2.2.2) = er B_ from (by rw [hB]; rfl), startF_er]] at hq; exact hq)) ?_
 clear H; intro w2 H
 simp only [N]
 refine wl_run rfl (rp_move rfl (v := .tuple #[.agg (enc (startF B_).1).toArray, iv (startF B_).2]) rfl) ?_
 simp only [N]
 refine wl_run rfl (rp_extract rfl rfl (v := .agg (enc (startF B_).1).toArray) rfl) ?_
 simp only [N]
 refine wl_run rfl (rp_extract rfl rfl (v := iv (startF B_).2) rfl) ?_
 simp only [N]
 refine wl_alloc H rfl rfl zv41 ?_
 clear H; intro b1 w3 hnb1 H; dsimp only [Value.cells] at H
 simp only [N]
 simp only [enc_replicate] at H
 refine wl_storeW H 0 rfl rfl rfl rfl (vs := (enc (startF B_).1).toArray) rfl (fun v hv => enc_one v (by simpa using hv)) (by first | (rw [sz41]; congr 1; done) | (rw [sz41]; congr 1; first | omega | (simp [-List.reduceReplicate]; done) | (simp [-List.reduceReplicate]; omega) | (simp [*, -List.reduceReplicate]; done) | (simp [*, -List.reduceReplicate]; omega))) (by first | omega | (simp [-List.reduceReplicate]; done) | (simp [-List.reduceReplicate]; omega) | (simp [*, -List.reduceReplicate]; done) | (simp [*, -List.reduceReplicate]; omega)) ?_
 clear H; intro w4 H; simp only [M] at H
 simp only [N]
 refine wl_run rfl (rp_assign rfl (v := iv (startF B_).2) rfl) ?_
 simp only [N]
 refine wpList_nil ?_
 refine wp_seq ?_
 refine wp_region_lit ?_
 refine wl_run rfl (rp_build rfl (vs := [(0, bv (7 : UInt8)), (6, bv (3 : UInt8))]) rfl (cs := #[bv (7 : UInt8), bv (0 : UInt8), bv (0 : UInt8), .bool false, bv (0 : UInt8), .bool false, bv (0 : UInt8), bv (0 : UInt8), bv (3 : UInt8), bv (0 : UInt8)]) (by kernel_rfl)) ?_
 simp only [N]
 refine wl_run rfl (rp_build rfl (vs := [(0, bv (3 : UInt8))]) rfl (cs := #[bv (3 : UInt8), bv (0 : UInt8), bv (0 : UInt8), bv (0 : UInt8), bv (0 : UInt8), bv (0 : UInt8), bv (0 : UInt8), bv (0 : UInt8), bv (0 : UInt8)]) (by kernel_rfl)) ?_
 simp only [N]
 refine wl_callE H rfl (rc_go Tryz.func17 (by kernel_rfl) rfl) (local_spec (⟨(7 : UInt8), (0 : UInt8), (0 : UInt8), ⟨false, (0 : UInt8)⟩, ⟨false, (0 : UInt8)⟩, (0 : UInt8), (3 : UInt8), (0 : UInt8)⟩ : Ins) ([(3 : UInt8), (0 : UInt8), (0 : UInt8), (0 : UInt8), (0 : UInt8), (0 : UInt8), (0 : UInt8), (0 : UInt8), (0 : UInt8)]) (by first | omega | (simp [-List.reduceReplicate]; done) | (simp [-List.reduceReplicate]; omega) | (simp [*, -List.reduceReplicate]; done) | (simp [*, -List.reduceReplicate]; omega)) _) ?_
 clear H; intro w5 H
 simp only [N]
 refine wl_run rfl (rp_move rfl (v := .tuple #[.agg (enc (localF (⟨(7 : UInt8), (0 : UInt8), (0 : UInt8), ⟨false, (0 : UInt8)⟩, ⟨false, (0 : UInt8)⟩, (0 : UInt8), (3 : UInt8), (0 : UInt8)⟩ : Ins) ([(3 : UInt8), (0 : UInt8), (0 : UInt8), (0 : UInt8), (0 : UInt8), (0 : UInt8), (0 : UInt8), (0 : UInt8), (0 : UInt8)])).1).toArray, .bool (localF (⟨(7 : UInt8), (0 : UInt8), (0 : UInt8), ⟨false, (0 : UInt8)⟩, ⟨false, (0 : UInt8)⟩, (0 : UInt8), (3 : UInt8), (0 : UInt8)⟩ : Ins) ([(3 : UInt8), (0 : UInt8), (0 : UInt8), (0 : UInt8), (0 : UInt8), (0 : UInt8), (0 : UInt8), (0 : UInt8), (0 : UInt8)])).2]) rfl) ?_
 simp only [N]
 refine wl_run rfl (rp_extract rfl rfl (v := .agg (enc (localF (⟨(7 : UInt8), (0 : UInt8), (0 : UInt8), ⟨false, (0 : UInt8)⟩, ⟨false, (0 : UInt8)⟩, (0 : UInt8), (3 : UInt8), (0 : UInt8)⟩ : Ins) ([(3 : UInt8), (0 : UInt8), (0 : UInt8), (0 : UInt8), (0 : UInt8), (0 : UInt8), (0 : UInt8), (0 : UInt8), (0 : UInt8)])).1).toArray) rfl) ?_
 simp only [N]
 refine wl_run rfl (rp_extract rfl rfl (v := .bool (localF (⟨(7 : UInt8), (0 : UInt8), (0 : UInt8), ⟨false, (0 : UInt8)⟩, ⟨false, (0 : UInt8)⟩, (0 : UInt8), (3 : UInt8), (0 : UInt8)⟩ : Ins) ([(3 : UInt8), (0 : UInt8), (0 : UInt8), (0 : UInt8), (0 : UInt8), (0 : UInt8), (0 : UInt8), (0 : UInt8), (0 : UInt8)])).2) rfl) ?_
 simp only [N]
 refine wl_alloc H rfl rfl zv32 ?_
 clear H; intro b2 w6 hnb2 H; dsimp only [Value.cells] at H
 simp only [N]
 replace H : Own w [] [IsProg (bufF_q1 x1_.1 x1_.2.1 x1_.2.2.1 x1_.2.2.2.1 x1_.2.2.2.2), FreshAt w (IsProg (bufF_q1 x1_.1 x1_.2.1 x1_.2.2.1 x1_.2.2.2.1 x1_.2.2.2.2)), Glob] [.blk b2 (.cells (enc (List.replicate 9 (0 : UInt8))).toArray 32 (0, 0)), .blk b1 (.cells (enc (startF B_).1).toArray 41 (0, 0))] _ := H
 refine wl_storeW H 0 rfl rfl rfl rfl (vs := (enc (localF (⟨(7 : UInt8), (0 : UInt8), (0 : UInt8), ⟨false, (0 : UInt8)⟩, ⟨false, (0 : UInt8)⟩, (0 : UInt8), (3 : UInt8), (0 : UInt8)⟩ : Ins) ([(3 : UInt8), (0 : UInt8), (0 : UInt8), (0 : UInt8), (0 : UInt8), (0 : UInt8), (0 : UInt8), (0 : UInt8), (0 : UInt8)])).1).toArray) rfl (fun v hv => enc_one v (by simpa using hv)) (by first | (rw [sz32]; congr 1; done) | (rw [sz32]; congr 1; first | omega | (simp [-List.reduceReplicate]; done) | (simp [-List.reduceReplicate]; omega) | (simp [*, -List.reduceReplicate]; done) | (simp [*, -List.reduceReplicate]; omega))) (by first | omega | (simp [-List.reduceReplicate]; done) | (simp [-List.reduceReplicate]; omega) | (simp [*, -List.reduceReplicate]; done) | (simp [*, -List.reduceReplicate]; omega)) ?_
 clear H; intro w7 H; simp only [M] at H
 simp only [N]
 refine wl_run rfl (rp_assign rfl (v := .bool (localF (⟨(7 : UInt8), (0 : UInt8), (0 : UInt8), ⟨false, (0 : UInt8)⟩, ⟨false, (0 : UInt8)⟩, (0 : UInt8), (3 : UInt8), (0 : UInt8)⟩ : Ins) ([(3 : UInt8), (0 : UInt8), (0 : UInt8), (0 : UInt8), (0 : UInt8), (0 : UInt8), (0 : UInt8), (0 : UInt8), (0 : UInt8)])).2) rfl) ?_
 simp only [N]
 refine wpList_nil ?_
 refine wp_seq ?_
 refine wp_cutX (fun a' w' => ∃  (u5 u18 u19 u20 u21 u22 u23 : Value) (bd5 : Nat) (xd19_ : Nat × Nat × Nat × Nat × Nat), a' = ⟨#[.bool false, .pointer (some ⟨b1, 0, none⟩), iv (startF B_).2, .pointer (some ⟨b2, 0, none⟩), .bool (localF (⟨(7 : UInt8), (0 : UInt8), (0 : UInt8), ⟨false, (0 : UInt8)⟩, ⟨false, (0 : UInt8)⟩, (0 : UInt8), (3 : UInt8), (0 : UInt8)⟩ : Ins) ([(3 : UInt8), (0 : UInt8), (0 : UInt8), (0 : UInt8), (0 : UInt8), (0 : UInt8), (0 : UInt8), (0 : UInt8), (0 : UInt8)])).2, u5, iv (moveF B_ ((startF B_).1) (2 : Int)).2, .tuple #[.agg (enc (startF B_).1).toArray, iv (startF B_).2], .agg ((bufF_q1 x1_.1 x1_.2.1 x1_.2.2.1 x1_.2.2.2.1 x1_.2.2.2.2).cells).toArray, .tuple #[.agg (enc (startF B_).1).toArray, iv (startF B_).2], .agg (enc (startF B_).1).toArray, iv (startF B_).2, .tuple #[.agg (enc (localF (⟨(7 : UInt8), (0 : UInt8), (0 : UInt8), ⟨false, (0 : UInt8)⟩, ⟨false, (0 : UInt8)⟩, (0 : UInt8), (3 : UInt8), (0 : UInt8)⟩ : Ins) ([(3 : UInt8), (0 : UInt8), (0 : UInt8), (0 : UInt8), (0 : UInt8), (0 : UInt8), (0 : UInt8), (0 : UInt8), (0 : UInt8)])).1).toArray, .bool (localF (⟨(7 : UInt8), (0 : UInt8), (0 : UInt8), ⟨false, (0 : UInt8)⟩, ⟨false, (0 : UInt8)⟩, (0 : UInt8), (3 : UInt8), (0 : UInt8)⟩ : Ins) ([(3 : UInt8), (0 : UInt8), (0 : UInt8), (0 : UInt8), (0 : UInt8), (0 : UInt8), (0 : UInt8), (0 : UInt8), (0 : UInt8)])).2], .agg #[bv (7 : UInt8), bv (0 : UInt8), bv (0 : UInt8), .bool false, bv (0 : UInt8), .bool false, bv (0 : UInt8), bv (0 : UInt8), bv (3 : UInt8), bv (0 : UInt8)], .agg #[bv (3 : UInt8), bv (0 : UInt8), bv (0 : UInt8), bv (0 : UInt8), bv (0 : UInt8), bv (0 : UInt8), bv (0 : UInt8), bv (0 : UInt8), bv (0 : UInt8)], .tuple #[.agg (enc (localF (⟨(7 : UInt8), (0 : UInt8), (0 : UInt8), ⟨false, (0 : UInt8)⟩, ⟨false, (0 : UInt8)⟩, (0 : UInt8), (3 : UInt8), (0 : UInt8)⟩ : Ins) ([(3 : UInt8), (0 : UInt8), (0 : UInt8), (0 : UInt8), (0 : UInt8), (0 : UInt8), (0 : UInt8), (0 : UInt8), (0 : UInt8)])).1).toArray, .bool (localF (⟨(7 : UInt8), (0 : UInt8), (0 : UInt8), ⟨false, (0 : UInt8)⟩, ⟨false, (0 : UInt8)⟩, (0 : UInt8), (3 : UInt8), (0 : UInt8)⟩ : Ins) ([(3 : UInt8), (0 : UInt8), (0 : UInt8), (0 : UInt8), (0 : UInt8), (0 : UInt8), (0 : UInt8), (0 : UInt8), (0 : UInt8)])).2], .agg (enc (localF (⟨(7 : UInt8), (0 : UInt8), (0 : UInt8), ⟨false, (0 : UInt8)⟩, ⟨false, (0 : UInt8)⟩, (0 : UInt8), (3 : UInt8), (0 : UInt8)⟩ : Ins) ([(3 : UInt8), (0 : UInt8), (0 : UInt8), (0 : UInt8), (0 : UInt8), (0 : UInt8), (0 : UInt8), (0 : UInt8), (0 : UInt8)])).1).toArray, .bool (localF (⟨(7 : UInt8), (0 : UInt8), (0 : UInt8), ⟨false, (0 : UInt8)⟩, ⟨false, (0 : UInt8)⟩, (0 : UInt8), (3 : UInt8), (0 : UInt8)⟩ : Ins) ([(3 : UInt8), (0 : UInt8), (0 : UInt8), (0 : UInt8), (0 : UInt8), (0 : UInt8), (0 : UInt8), (0 : UInt8), (0 : UInt8)])).2, u18, u19, u20, u21, u22, u23, undef, undef, undef, undef, undef, undef, undef, undef, undef, undef, undef, undef, undef, undef, undef, undef, undef, undef, undef, undef, undef, undef, undef, undef, undef, undef, undef, undef, undef, undef, undef, undef, undef, undef, undef, undef], []⟩ ∧ Own w [] [IsProg (bufF_q1 xd19_.1 xd19_.2.1 xd19_.2.2.1 xd19_.2.2.2.1 xd19_.2.2.2.2), IsProg (bufF_q1 x1_.1 x1_.2.1 x1_.2.2.1 x1_.2.2.2.1 x1_.2.2.2.2), FreshAt w (IsProg (bufF_q1 x1_.1 x1_.2.1 x1_.2.2.1 x1_.2.2.2.1 x1_.2.2.2.2)), Glob] [.blk bd5 (.cells (enc (moveF B_ ((startF B_).1) (2 : Int)).1).toArray 41 (0, 0)), .blk b2 (.cells (enc (localF (⟨(7 : UInt8), (0 : UInt8), (0 : UInt8), ⟨false, (0 : UInt8)⟩, ⟨false, (0 : UInt8)⟩, (0 : UInt8), (3 : UInt8), (0 : UInt8)⟩ : Ins) ([(3 : UInt8), (0 : UInt8), (0 : UInt8), (0 : UInt8), (0 : UInt8), (0 : UInt8), (0 : UInt8), (0 : UInt8), (0 : UInt8)])).1).toArray 32 (0, 0)), .blk b1 (.cells (enc (startF B_).1).toArray 41 (0, 0))] w' ∧ w.heap.size ≤ bd5 ∧ (awakeF B_) = awakeF_a B_) ?_ ?_
 ·
  refine wp_region_mix 9 H (by kernel_rfl) ?_
  refine wxl_take 1 rfl rfl (by kernel_rfl) (by kernel_rfl) (by kernel_rfl) (by kernel_rfl) (by kernel_rfl) (xy_run rfl (fun w H => rp_loadWe H 1 rfl rfl rfl Tryz.underlying41 rfl (by first | exact sz41 | (rw [sz41]; congr 1; first | omega | (simp [-List.reduceReplicate]; done) | (simp [-List.reduceReplicate]; omega) | (simp [*, -List.reduceReplicate]; done) | (simp [*, -List.reduceReplicate]; omega))) rfl)) ?_
  simp only [N]
  refine wxl_each2 0 6 (by kernel_rfl) ?_ ?_
  ·
   refine xs_fresh rfl rfl rfl (rc_go Tryz.func43 (by kernel_rfl) rfl) (fun w H => bufF_spec _) ?_
   intro xd19_
   simp only [N, M, Value.cells]
   refine wxl_take 2 rfl rfl (by kernel_rfl) (by kernel_rfl) (by kernel_rfl) (by kernel_rfl) (by kernel_rfl) (xy_call rfl (rc_go Tryz.func14 (by kernel_rfl) rfl) (fun w H => (by have hq := moveF_spec (bufF_q1 xd19_.1 xd19_.2.1 xd19_.2.2.1 xd19_.2.2.2.1 xd19_.2.2.2.2) ((startF B_).1) (2 : Int) (by first | omega | (simp [-List.reduceReplicate]; done) | (simp [-List.reduceReplicate]; omega) | (simp [*, -List.reduceReplicate]; done) | (simp [*, -List.reduceReplicate]; omega)) _ (H.ro_at 0 rfl) (H.ro_at 3 rfl); rw [show (moveF (bufF_q1 xd19_.1 xd19_.2.1 xd19_.2.2.1 xd19_.2.2.2.1 xd19_.2.2.2.2) ((startF B_).1) (2 : Int)) = (moveF B_ ((startF B_).1) (2 : Int)) from by rw [← moveF_er (bufF_q1 xd19_.1 xd19_.2.1 xd19_.2.2.1 xd19_.2.2.2.1 xd19_.2.2.2.2), show er (bufF_q1 xd19_.1 xd19_.2.1 xd19_.2.2.1 xd19_.2.2.2.1 xd19_.2.2.2.2) = er B_ from (by rw [hB]; rfl), moveF_er]] at hq; exact hq))) ?_
   simp only [N]
   refine wxl_take 3 rfl rfl (by kernel_rfl) (by kernel_rfl) (by kernel_rfl) (by kernel_rfl) (by kernel_rfl) (xy_run rfl (fun w H => rp_move rfl (v := .tuple #[.agg (enc (moveF B_ ((startF B_).1) (2 : Int)).1).toArray, iv (moveF B_ ((startF B_).1) (2 : Int)).2]) rfl)) ?_
   simp only [N]
   refine wxl_take 4 rfl rfl (by kernel_rfl) (by kernel_rfl) (by kernel_rfl) (by kernel_rfl) (by kernel_rfl) (xy_run rfl (fun w H => rp_extract rfl rfl (v := .agg (enc (moveF B_ ((startF B_).1) (2 : Int)).1).toArray) rfl)) ?_
   simp only [N]
   refine wxl_take 5 rfl rfl (by kernel_rfl) (by kernel_rfl) (by kernel_rfl) (by kernel_rfl) (by kernel_rfl) (xy_run rfl (fun w H => rp_extract rfl rfl (v := iv (moveF B_ ((startF B_).1) (2 : Int)).2) rfl)) ?_
   simp only [N]
   refine wxl_alloc 6 rfl rfl (by kernel_rfl) rfl (xa_alloc rfl zv41) ?_
   intro bd5
   simp only [N, M, Value.cells]
   refine wxl_store 7 0 rfl rfl (by kernel_rfl) rfl rfl (xs_whole rfl rfl (vs := (enc (moveF B_ ((startF B_).1) (2 : Int)).1).toArray) rfl (fun v hv => enc_one v (by simpa using hv)) (by first | exact sz41 | (rw [sz41]; congr 1; first | omega | (simp [-List.reduceReplicate]; done) | (simp [-List.reduceReplicate]; omega) | (simp [*, -List.reduceReplicate]; done) | (simp [*, -List.reduceReplicate]; omega))) (by first | rfl | first | omega | (simp [-List.reduceReplicate]; done) | (simp [-List.reduceReplicate]; omega) | (simp [*, -List.reduceReplicate]; done) | (simp [*, -List.reduceReplicate]; omega))) ?_
   simp only [N, M, Value.cells]
   refine wxl_take 8 rfl rfl (by kernel_rfl) (by kernel_rfl) (by kernel_rfl) (by kernel_rfl) (by kernel_rfl) (xy_run rfl (fun w H => rp_assign rfl (v := iv (moveF B_ ((startF B_).1) (2 : Int)).2) rfl)) ?_
   simp only [N]
   refine wpX_done (by kernel_rfl) ?_ _
   clear H; intro w8 H; simp only [List.cons_append, List.nil_append] at H
   exact ⟨_, _, _, _, _, _, _, bd5, xd19_, rfl, H, (H.newrow 0 rfl _ rfl), rfl⟩
  ·
   refine xs_allocR rfl rfl rfl (xa_alloc rfl zv41) ?_
   intro bd5
   simp only [N, M, Value.cells]
   refine wxl_fresh 0 rfl rfl (by kernel_rfl) rfl (rc_go Tryz.func43 (by kernel_rfl) rfl) (fun w H => bufF_spec _) ?_
   intro xd19_
   simp only [N, M, Value.cells]
   refine wxl_take 2 rfl rfl (by kernel_rfl) (by kernel_rfl) (by kernel_rfl) (by kernel_rfl) (by kernel_rfl) (xy_call rfl (rc_go Tryz.func14 (by kernel_rfl) rfl) (fun w H => (by have hq := moveF_spec (bufF_q1 xd19_.1 xd19_.2.1 xd19_.2.2.1 xd19_.2.2.2.1 xd19_.2.2.2.2) ((startF B_).1) (2 : Int) (by first | omega | (simp [-List.reduceReplicate]; done) | (simp [-List.reduceReplicate]; omega) | (simp [*, -List.reduceReplicate]; done) | (simp [*, -List.reduceReplicate]; omega)) _ (H.ro_at 0 rfl) (H.ro_at 3 rfl); rw [show (moveF (bufF_q1 xd19_.1 xd19_.2.1 xd19_.2.2.1 xd19_.2.2.2.1 xd19_.2.2.2.2) ((startF B_).1) (2 : Int)) = (moveF B_ ((startF B_).1) (2 : Int)) from by rw [← moveF_er (bufF_q1 xd19_.1 xd19_.2.1 xd19_.2.2.1 xd19_.2.2.2.1 xd19_.2.2.2.2), show er (bufF_q1 xd19_.1 xd19_.2.1 xd19_.2.2.1 xd19_.2.2.2.1 xd19_.2.2.2.2) = er B_ from (by rw [hB]; rfl), moveF_er]] at hq; exact hq))) ?_
   simp only [N]
   refine wxl_take 3 rfl rfl (by kernel_rfl) (by kernel_rfl) (by kernel_rfl) (by kernel_rfl) (by kernel_rfl) (xy_run rfl (fun w H => rp_move rfl (v := .tuple #[.agg (enc (moveF B_ ((startF B_).1) (2 : Int)).1).toArray, iv (moveF B_ ((startF B_).1) (2 : Int)).2]) rfl)) ?_
   simp only [N]
   refine wxl_take 4 rfl rfl (by kernel_rfl) (by kernel_rfl) (by kernel_rfl) (by kernel_rfl) (by kernel_rfl) (xy_run rfl (fun w H => rp_extract rfl rfl (v := .agg (enc (moveF B_ ((startF B_).1) (2 : Int)).1).toArray) rfl)) ?_
   simp only [N]
   refine wxl_take 5 rfl rfl (by kernel_rfl) (by kernel_rfl) (by kernel_rfl) (by kernel_rfl) (by kernel_rfl) (xy_run rfl (fun w H => rp_extract rfl rfl (v := iv (moveF B_ ((startF B_).1) (2 : Int)).2) rfl)) ?_
   simp only [N]
   refine wxl_store 7 0 rfl rfl (by kernel_rfl) rfl rfl (xs_whole rfl rfl (vs := (enc (moveF B_ ((startF B_).1) (2 : Int)).1).toArray) rfl (fun v hv => enc_one v (by simpa using hv)) (by first | exact sz41 | (rw [sz41]; congr 1; first | omega | (simp [-List.reduceReplicate]; done) | (simp [-List.reduceReplicate]; omega) | (simp [*, -List.reduceReplicate]; done) | (simp [*, -List.reduceReplicate]; omega))) (by first | rfl | first | omega | (simp [-List.reduceReplicate]; done) | (simp [-List.reduceReplicate]; omega) | (simp [*, -List.reduceReplicate]; done) | (simp [*, -List.reduceReplicate]; omega))) ?_
   simp only [N, M, Value.cells]
   refine wxl_take 8 rfl rfl (by kernel_rfl) (by kernel_rfl) (by kernel_rfl) (by kernel_rfl) (by kernel_rfl) (xy_run rfl (fun w H => rp_assign rfl (v := iv (moveF B_ ((startF B_).1) (2 : Int)).2) rfl)) ?_
   simp only [N]
   refine wpX_done (by kernel_rfl) ?_ _
   clear H; intro w9 H; simp only [List.cons_append, List.nil_append] at H
   exact ⟨_, _, _, _, _, _, _, bd5, xd19_, rfl, H, (H.newrow 0 rfl _ rfl), rfl⟩
 clear H
 rintro _ w10 ⟨u5, u18, u19, u20, u21, u22, u23, bd5, xd19_, rfl, H, hnbd5, hFa⟩
 refine wp_seq ?_
 refine wp_region_mix 37 H (by kernel_rfl) ?_
 refine wxl_take 0 rfl rfl (by kernel_rfl) (by kernel_rfl) (by kernel_rfl) (by kernel_rfl) (by kernel_rfl) (xy_run rfl (fun w H => rp_move rfl (v := iv (startF B_).2) rfl)) ?_
 simp only [N]
 refine wxl_take 1 rfl rfl (by kernel_rfl) (by kernel_rfl) (by kernel_rfl) (by kernel_rfl) (by kernel_rfl) (xy_run rfl (fun w H => rp_int_eql rfl (startF B_).2 (0 : Int) rfl rfl)) ?_
 simp only [N]
 refine wxl_take 2 rfl rfl (by kernel_rfl) (by kernel_rfl) (by kernel_rfl) (by kernel_rfl) (by kernel_rfl) (xy_run rfl (fun w H => rp_move rfl (v := .bool ((startF B_).2 == (0 : Int))) rfl)) ?_
 simp only [N]
 refine wxl_take 3 rfl rfl (by kernel_rfl) (by kernel_rfl) (by kernel_rfl) (by kernel_rfl) (by kernel_rfl) (xy_g (wn_t rfl rfl) (v := iv (moveF B_ ((startF B_).1) (2 : Int)).2) (fun hg w H => rp_move rfl (v := iv (moveF B_ ((startF B_).1) (2 : Int)).2) rfl)) ?_
 simp only [N]
 refine wxl_take 4 rfl rfl (by kernel_rfl) (by kernel_rfl) (by kernel_rfl) (by kernel_rfl) (by kernel_rfl) (xy_g (wn_t rfl rfl) (v := .bool ((moveF B_ ((startF B_).1) (2 : Int)).2 == (2 : Int))) (fun hg w H => by have x2 : (startF B_).2 = (0 : Int) := (by simpa using hg); exact (by simp only [gv_t hg]; exact rp_int_eql rfl (moveF B_ ((startF B_).1) (2 : Int)).2 (2 : Int) rfl rfl))) ?_
 simp only [N]
 refine wxl_take 5 rfl rfl (by kernel_rfl) (by kernel_rfl) (by kernel_rfl) (by kernel_rfl) (by kernel_rfl) (xy_run rfl (fun w H => rp_pickA rfl (p := ((startF B_).2 == (0 : Int))) (q := ((moveF B_ ((startF B_).1) (2 : Int)).2 == (2 : Int))) rfl rfl rfl)) ?_
 simp only [N]
 refine wxl_take 6 rfl rfl (by kernel_rfl) (by kernel_rfl) (by kernel_rfl) (by kernel_rfl) (by kernel_rfl) (xy_run rfl (fun w H => rp_move rfl (v := .bool (((startF B_).2 == (0 : Int)) && ((moveF B_ ((startF B_).1) (2 : Int)).2 == (2 : Int)))) rfl)) ?_
 simp only [N]
 refine wxl_take 7 rfl rfl (by kernel_rfl) (by kernel_rfl) (by kernel_rfl) (by kernel_rfl) (by kernel_rfl) (xy_g (wn_t rfl rfl) (v := .pointer (some ⟨b2, 0, none⟩)) (fun hg w H => rp_fieldAddr rfl Tryz.underlying32 rfl 0 rfl sz5 rfl (0) rfl)) ?_
 simp only [N]
 refine wxl_take 8 rfl rfl (by kernel_rfl) (by kernel_rfl) (by kernel_rfl) (by kernel_rfl) (by kernel_rfl) (xy_g (wn_t rfl rfl) (v := bv ((localF (⟨(7 : UInt8), (0 : UInt8), (0 : UInt8), ⟨false, (0 : UInt8)⟩, ⟨false, (0 : UInt8)⟩, (0 : UInt8), (3 : UInt8), (0 : UInt8)⟩ : Ins) ([(3 : UInt8), (0 : UInt8), (0 : UInt8), (0 : UInt8), (0 : UInt8), (0 : UInt8), (0 : UInt8), (0 : UInt8), (0 : UInt8)])).1.getD (0) 0)) (fun hg w H => by have x5 : (startF B_).2 = (0 : Int) := (by simpa using (andl hg)); have x6 : (moveF B_ ((startF B_).1) (2 : Int)).2 = (2 : Int) := (by simpa using (andr hg)); exact (by simp only [gv_t hg]; exact rp_load1e H 1 rfl rfl rfl Tryz.underlying5 rfl (0) rfl (by first | omega | (simp [-List.reduceReplicate]; done) | (simp [-List.reduceReplicate]; omega) | (simp [*, -List.reduceReplicate]; done) | (simp [*, -List.reduceReplicate]; omega))))) ?_
 simp only [N]
 refine wxl_take 9 rfl rfl (by kernel_rfl) (by kernel_rfl) (by kernel_rfl) (by kernel_rfl) (by kernel_rfl) (xy_g (wn_t rfl rfl) (v := .bool (((localF (⟨(7 : UInt8), (0 : UInt8), (0 : UInt8), ⟨false, (0 : UInt8)⟩, ⟨false, (0 : UInt8)⟩, (0 : UInt8), (3 : UInt8), (0 : UInt8)⟩ : Ins) ([(3 : UInt8), (0 : UInt8), (0 : UInt8), (0 : UInt8), (0 : UInt8), (0 : UInt8), (0 : UInt8), (0 : UInt8), (0 : UInt8)])).1.getD (0) 0) == (4 : UInt8))) (fun hg w H => by have x7 : (startF B_).2 = (0 : Int) := (by simpa using (andl hg)); have x8 : (moveF B_ ((startF B_).1) (2 : Int)).2 = (2 : Int) := (by simpa using (andr hg)); exact (by simp only [gv_t hg]; exact rp_u8_eql rfl ((localF (⟨(7 : UInt8), (0 : UInt8), (0 : UInt8), ⟨false, (0 : UInt8)⟩, ⟨false, (0 : UInt8)⟩, (0 : UInt8), (3 : UInt8), (0 : UInt8)⟩ : Ins) ([(3 : UInt8), (0 : UInt8), (0 : UInt8), (0 : UInt8), (0 : UInt8), (0 : UInt8), (0 : UInt8), (0 : UInt8), (0 : UInt8)])).1.getD (0) 0) (4 : UInt8) rfl rfl))) ?_
 simp only [N]
 refine wxl_take 10 rfl rfl (by kernel_rfl) (by kernel_rfl) (by kernel_rfl) (by kernel_rfl) (by kernel_rfl) (xy_run rfl (fun w H => rp_pickA rfl (p := (((startF B_).2 == (0 : Int)) && ((moveF B_ ((startF B_).1) (2 : Int)).2 == (2 : Int)))) (q := (((localF (⟨(7 : UInt8), (0 : UInt8), (0 : UInt8), ⟨false, (0 : UInt8)⟩, ⟨false, (0 : UInt8)⟩, (0 : UInt8), (3 : UInt8), (0 : UInt8)⟩ : Ins) ([(3 : UInt8), (0 : UInt8), (0 : UInt8), (0 : UInt8), (0 : UInt8), (0 : UInt8), (0 : UInt8), (0 : UInt8), (0 : UInt8)])).1.getD (0) 0) == (4 : UInt8))) rfl rfl rfl)) ?_
 simp only [N]
 refine wxl_take 11 rfl rfl (by kernel_rfl) (by kernel_rfl) (by kernel_rfl) (by kernel_rfl) (by kernel_rfl) (xy_run rfl (fun w H => rp_move rfl (v := .bool ((((startF B_).2 == (0 : Int)) && ((moveF B_ ((startF B_).1) (2 : Int)).2 == (2 : Int))) && (((localF (⟨(7 : UInt8), (0 : UInt8), (0 : UInt8), ⟨false, (0 : UInt8)⟩, ⟨false, (0 : UInt8)⟩, (0 : UInt8), (3 : UInt8), (0 : UInt8)⟩ : Ins) ([(3 : UInt8), (0 : UInt8), (0 : UInt8), (0 : UInt8), (0 : UInt8), (0 : UInt8), (0 : UInt8), (0 : UInt8), (0 : UInt8)])).1.getD (0) 0) == (4 : UInt8)))) rfl)) ?_
 simp only [N]
 refine wxl_take 12 rfl rfl (by kernel_rfl) (by kernel_rfl) (by kernel_rfl) (by kernel_rfl) (by kernel_rfl) (xy_g (wn_t rfl rfl) (v := .bool (localF (⟨(7 : UInt8), (0 : UInt8), (0 : UInt8), ⟨false, (0 : UInt8)⟩, ⟨false, (0 : UInt8)⟩, (0 : UInt8), (3 : UInt8), (0 : UInt8)⟩ : Ins) ([(3 : UInt8), (0 : UInt8), (0 : UInt8), (0 : UInt8), (0 : UInt8), (0 : UInt8), (0 : UInt8), (0 : UInt8), (0 : UInt8)])).2) (fun hg w H => rp_move rfl (v := .bool (localF (⟨(7 : UInt8), (0 : UInt8), (0 : UInt8), ⟨false, (0 : UInt8)⟩, ⟨false, (0 : UInt8)⟩, (0 : UInt8), (3 : UInt8), (0 : UInt8)⟩ : Ins) ([(3 : UInt8), (0 : UInt8), (0 : UInt8), (0 : UInt8), (0 : UInt8), (0 : UInt8), (0 : UInt8), (0 : UInt8), (0 : UInt8)])).2) rfl)) ?_
 simp only [N]
 refine wxl_take 13 rfl rfl (by kernel_rfl) (by kernel_rfl) (by kernel_rfl) (by kernel_rfl) (by kernel_rfl) (xy_run rfl (fun w H => rp_pickA rfl (p := ((((startF B_).2 == (0 : Int)) && ((moveF B_ ((startF B_).1) (2 : Int)).2 == (2 : Int))) && (((localF (⟨(7 : UInt8), (0 : UInt8), (0 : UInt8), ⟨false, (0 : UInt8)⟩, ⟨false, (0 : UInt8)⟩, (0 : UInt8), (3 : UInt8), (0 : UInt8)⟩ : Ins) ([(3 : UInt8), (0 : UInt8), (0 : UInt8), (0 : UInt8), (0 : UInt8), (0 : UInt8), (0 : UInt8), (0 : UInt8), (0 : UInt8)])).1.getD (0) 0) == (4 : UInt8)))) (q := (localF (⟨(7 : UInt8), (0 : UInt8), (0 : UInt8), ⟨false, (0 : UInt8)⟩, ⟨false, (0 : UInt8)⟩, (0 : UInt8), (3 : UInt8), (0 : UInt8)⟩ : Ins) ([(3 : UInt8), (0 : UInt8), (0 : UInt8), (0 : UInt8), (0 : UInt8), (0 : UInt8), (0 : UInt8), (0 : UInt8), (0 : UInt8)])).2) rfl rfl rfl)) ?_
 simp only [N]
 refine wxl_take 14 rfl rfl (by kernel_rfl) (by kernel_rfl) (by kernel_rfl) (by kernel_rfl) (by kernel_rfl) (xy_run rfl (fun w H => rp_move rfl (v := .bool (((((startF B_).2 == (0 : Int)) && ((moveF B_ ((startF B_).1) (2 : Int)).2 == (2 : Int))) && (((localF (⟨(7 : UInt8), (0 : UInt8), (0 : UInt8), ⟨false, (0 : UInt8)⟩, ⟨false, (0 : UInt8)⟩, (0 : UInt8), (3 : UInt8), (0 : UInt8)⟩ : Ins) ([(3 : UInt8), (0 : UInt8), (0 : UInt8), (0 : UInt8), (0 : UInt8), (0 : UInt8), (0 : UInt8), (0 : UInt8), (0 : UInt8)])).1.getD (0) 0) == (4 : UInt8))) && (localF (⟨(7 : UInt8), (0 : UInt8), (0 : UInt8), ⟨false, (0 : UInt8)⟩, ⟨false, (0 : UInt8)⟩, (0 : UInt8), (3 : UInt8), (0 : UInt8)⟩ : Ins) ([(3 : UInt8), (0 : UInt8), (0 : UInt8), (0 : UInt8), (0 : UInt8), (0 : UInt8), (0 : UInt8), (0 : UInt8), (0 : UInt8)])).2)) rfl)) ?_
 simp only [N]
 refine wxl_take 16 rfl rfl (by kernel_rfl) (by kernel_rfl) (by kernel_rfl) (by kernel_rfl) (by kernel_rfl) (xy_g (wn_t rfl rfl) (v := .agg (enc (startF B_).1).toArray) (fun hg w H => rp_loadWe H 2 rfl rfl rfl Tryz.underlying41 rfl (by first | exact sz41 | (rw [sz41]; congr 1; first | omega | (simp [-List.reduceReplicate]; done) | (simp [-List.reduceReplicate]; omega) | (simp [*, -List.reduceReplicate]; done) | (simp [*, -List.reduceReplicate]; omega))) rfl)) ?_
 simp only [N]
 have hg1 : (((((startF B_).2 == (0 : Int)) && ((moveF B_ ((startF B_).1) (2 : Int)).2 == (2 : Int))) && (((localF (⟨(7 : UInt8), (0 : UInt8), (0 : UInt8), ⟨false, (0 : UInt8)⟩, ⟨false, (0 : UInt8)⟩, (0 : UInt8), (3 : UInt8), (0 : UInt8)⟩ : Ins) ([(3 : UInt8), (0 : UInt8), (0 : UInt8), (0 : UInt8), (0 : UInt8), (0 : UInt8), (0 : UInt8), (0 : UInt8), (0 : UInt8)])).1.getD (0) 0) == (4 : UInt8))) && (localF (⟨(7 : UInt8), (0 : UInt8), (0 : UInt8), ⟨false, (0 : UInt8)⟩, ⟨false, (0 : UInt8)⟩, (0 : UInt8), (3 : UInt8), (0 : UInt8)⟩ : Ins) ([(3 : UInt8), (0 : UInt8), (0 : UInt8), (0 : UInt8), (0 : UInt8), (0 : UInt8), (0 : UInt8), (0 : UInt8), (0 : UInt8)])).2) = true := by rw [hB]; kernel_rfl
 simp only [(andr hg1), (andl (andl (andl hg1))), gv_t (andl (andl (andl hg1))), (andl (andl hg1)), gv_t (andl (andl hg1)), (andl hg1), gv_t (andl hg1), hg1, gv_t hg1, (andr (andl (andl hg1))), (andr (andl hg1)), Bool.true_and, Bool.and_true]
 refine wxl_each2 15 18 (by kernel_rfl) ?_ ?_
 ·
  refine xs_fresh rfl rfl rfl (rc_go Tryz.func43 (by kernel_rfl) rfl) (fun w H => bufF_spec _) ?_
  intro xd39_
  simp only [N, M, Value.cells]
  refine wxl_each2 17 18 (by kernel_rfl) ?_ ?_
  ·
   refine xs_fresh rfl rfl rfl (rc_go Tryz.func11 (by kernel_rfl) rfl) (fun w H => (by have hq := movesF_spec (bufF_q1 xd39_.1 xd39_.2.1 xd39_.2.2.1 xd39_.2.2.2.1 xd39_.2.2.2.2) ((startF B_).1) (by first | omega | (simp [-List.reduceReplicate]; done) | (simp [-List.reduceReplicate]; omega) | (simp [*, -List.reduceReplicate]; done) | (simp [*, -List.reduceReplicate]; omega)) _ (H.ro_at 0 rfl) (H.ro_at 4 rfl); rw [show (movesF (bufF_q1 xd39_.1 xd39_.2.1 xd39_.2.2.1 xd39_.2.2.2.1 xd39_.2.2.2.2) ((startF B_).1)) = (movesF B_ ((startF B_).1)) from by rw [← movesF_er (bufF_q1 xd39_.1 xd39_.2.1 xd39_.2.2.1 xd39_.2.2.2.1 xd39_.2.2.2.2), show er (bufF_q1 xd39_.1 xd39_.2.1 xd39_.2.2.1 xd39_.2.2.2.1 xd39_.2.2.2.2) = er B_ from (by rw [hB]; rfl), movesF_er]] at hq; exact hq)) ?_
   intro xd41_
   simp only [N, M, Value.cells]
   refine wxl_allocF 18 rfl rfl (by kernel_rfl) rfl (xa_buildSlice rfl Tryz.underlying44 sz3 zv3 (by decide) (by decide) (vs := [(0, iv (0 : Int)), (1, iv (1 : Int))]) rfl (cs := #[iv (0 : Int), iv (1 : Int)]) (by kernel_rfl)) ?_
   intro bd42
   simp only [N, M, Value.cells]
   refine wxl_take 19 rfl rfl (by kernel_rfl) (by kernel_rfl) (by kernel_rfl) (by kernel_rfl) (by kernel_rfl) (xy_call rfl (rc_go Tryz.func28 (by kernel_rfl) rfl) (fun w H => intsF_spec (⟨xd41_.1, xd41_.2, (movesF B_ ((startF B_).1))⟩ : Sl Int) (⟨some ⟨bd42, 0, none⟩, 2, [(0 : Int), (1 : Int)]⟩ : Sl Int) _ (((H.ro_at 1 rfl))) ((slin_blk (H.ro_at 0 rfl) ⟨[], rfl⟩ eIntN (Nat.le_of_ble_eq_true rfl))))) ?_
   simp only [N]
   refine wxl_take 20 rfl rfl (by kernel_rfl) (by kernel_rfl) (by kernel_rfl) (by kernel_rfl) (by kernel_rfl) (xy_run rfl (fun w H => rp_pickT rfl rfl (u := .bool (intsF (movesF B_ ((startF B_).1)) ([(0 : Int), (1 : Int)] : List Int))) rfl)) ?_
   simp only [N]
   refine wxl_take 21 rfl rfl (by kernel_rfl) (by kernel_rfl) (by kernel_rfl) (by kernel_rfl) (by kernel_rfl) (xy_run rfl (fun w H => rp_move rfl (v := .bool (intsF (movesF B_ ((startF B_).1)) ([(0 : Int), (1 : Int)] : List Int))) rfl)) ?_
   simp only [N]
   have hg2 : (intsF (movesF B_ ((startF B_).1)) ([(0 : Int), (1 : Int)] : List Int)) = true := by rw [hB]; kernel_rfl
   simp only [hg2, Bool.true_and, Bool.and_true]
   refine wxl_each2 22 23 (by kernel_rfl) ?_ ?_
   ·
    refine xs_allocQ rfl rfl rfl (xa_buildSlice rfl Tryz.underlying23 sz5 zv5 (by decide) (by decide) (vs := [(0, bv (0 : UInt8)), (1, bv (0 : UInt8))]) rfl (cs := #[bv (0 : UInt8), bv (0 : UInt8)]) (by kernel_rfl)) ?_
    intro bd46
    simp only [N, M, Value.cells]
    refine wxl_allocF 23 rfl rfl (by kernel_rfl) rfl (xa_buildSlice rfl Tryz.underlying44 sz3 zv3 (by decide) (by decide) (vs := [(0, iv (0 : Int)), (1, iv (0 : Int)), (2, iv (1 : Int)), (3, iv (1 : Int))]) rfl (cs := #[iv (0 : Int), iv (0 : Int), iv (1 : Int), iv (1 : Int)]) (by kernel_rfl)) ?_
    intro bd47
    simp only [N, M, Value.cells]
    refine wxl_take 24 rfl rfl (by kernel_rfl) (by kernel_rfl) (by kernel_rfl) (by kernel_rfl) (by kernel_rfl) (xy_call rfl (rc_go Tryz.func44 (by kernel_rfl) rfl) (fun w H => playsF_spec (⟨some ⟨bd46, 0, none⟩, 2, [(0 : UInt8), (0 : UInt8)]⟩ : Sl UInt8) (0 : UInt8) (1 : UInt8) (⟨some ⟨bd47, 0, none⟩, 4, [(0 : Int), (0 : Int), (1 : Int), (1 : Int)]⟩ : Sl Int) B_ hB _ ((slin_blk (H.ro_at 1 rfl) ⟨[], rfl⟩ eByteN (Nat.le_of_ble_eq_true rfl))) ((slin_blk (H.ro_at 0 rfl) ⟨[], rfl⟩ eIntN (Nat.le_of_ble_eq_true rfl))) (H.ro_at 8 rfl))) ?_
    simp only [N]
    refine wxl_take 25 rfl rfl (by kernel_rfl) (by kernel_rfl) (by kernel_rfl) (by kernel_rfl) (by kernel_rfl) (xy_run rfl (fun w H => rp_pickT rfl rfl (u := .bool (playsF ([(0 : UInt8), (0 : UInt8)] : List UInt8) (0 : UInt8) (1 : UInt8) ([(0 : Int), (0 : Int), (1 : Int), (1 : Int)] : List Int) B_)) rfl)) ?_
    simp only [N]
    refine wxl_take 26 rfl rfl (by kernel_rfl) (by kernel_rfl) (by kernel_rfl) (by kernel_rfl) (by kernel_rfl) (xy_run rfl (fun w H => rp_move rfl (v := .bool (playsF ([(0 : UInt8), (0 : UInt8)] : List UInt8) (0 : UInt8) (1 : UInt8) ([(0 : Int), (0 : Int), (1 : Int), (1 : Int)] : List Int) B_)) rfl)) ?_
    simp only [N]
    have hg3 : (playsF ([(0 : UInt8), (0 : UInt8)] : List UInt8) (0 : UInt8) (1 : UInt8) ([(0 : Int), (0 : Int), (1 : Int), (1 : Int)] : List Int) B_) = true := by rw [hB]; kernel_rfl
    simp only [hg3, Bool.true_and, Bool.and_true]
    refine wxl_each2 27 28 (by kernel_rfl) ?_ ?_
    ·
     refine xs_allocQ rfl rfl rfl (xa_buildSlice rfl Tryz.underlying23 sz5 zv5 (by decide) (by decide) (vs := [(0, bv (0 : UInt8)), (1, bv (1 : UInt8))]) rfl (cs := #[bv (0 : UInt8), bv (1 : UInt8)]) (by kernel_rfl)) ?_
     intro bd51
     simp only [N, M, Value.cells]
     refine wxl_allocF 28 rfl rfl (by kernel_rfl) rfl (xa_buildSlice rfl Tryz.underlying44 sz3 zv3 (by decide) (by decide) (vs := [(0, iv (0 : Int)), (1, iv (1 : Int)), (2, iv (0 : Int)), (3, iv (1 : Int))]) rfl (cs := #[iv (0 : Int), iv (1 : Int), iv (0 : Int), iv (1 : Int)]) (by kernel_rfl)) ?_
     intro bd52
     simp only [N, M, Value.cells]
     refine wxl_take 29 rfl rfl (by kernel_rfl) (by kernel_rfl) (by kernel_rfl) (by kernel_rfl) (by kernel_rfl) (xy_call rfl (rc_go Tryz.func44 (by kernel_rfl) rfl) (fun w H => playsF_spec (⟨some ⟨bd51, 0, none⟩, 2, [(0 : UInt8), (1 : UInt8)]⟩ : Sl UInt8) (1 : UInt8) (1 : UInt8) (⟨some ⟨bd52, 0, none⟩, 4, [(0 : Int), (1 : Int), (0 : Int), (1 : Int)]⟩ : Sl Int) B_ hB _ ((slin_blk (H.ro_at 1 rfl) ⟨[], rfl⟩ eByteN (Nat.le_of_ble_eq_true rfl))) ((slin_blk (H.ro_at 0 rfl) ⟨[], rfl⟩ eIntN (Nat.le_of_ble_eq_true rfl))) (H.ro_at 10 rfl))) ?_
     simp only [N]
     refine wxl_take 30 rfl rfl (by kernel_rfl) (by kernel_rfl) (by kernel_rfl) (by kernel_rfl) (by kernel_rfl) (xy_run rfl (fun w H => rp_pickT rfl rfl (u := .bool (playsF ([(0 : UInt8), (1 : UInt8)] : List UInt8) (1 : UInt8) (1 : UInt8) ([(0 : Int), (1 : Int), (0 : Int), (1 : Int)] : List Int) B_)) rfl)) ?_
     simp only [N]
     refine wxl_take 31 rfl rfl (by kernel_rfl) (by kernel_rfl) (by kernel_rfl) (by kernel_rfl) (by kernel_rfl) (xy_run rfl (fun w H => rp_move rfl (v := .bool (playsF ([(0 : UInt8), (1 : UInt8)] : List UInt8) (1 : UInt8) (1 : UInt8) ([(0 : Int), (1 : Int), (0 : Int), (1 : Int)] : List Int) B_)) rfl)) ?_
     simp only [N]
     have hg4 : (playsF ([(0 : UInt8), (1 : UInt8)] : List UInt8) (1 : UInt8) (1 : UInt8) ([(0 : Int), (1 : Int), (0 : Int), (1 : Int)] : List Int) B_) = true := by rw [hB]; kernel_rfl
     simp only [hg4, Bool.true_and, Bool.and_true]
     refine wxl_each2 32 33 (by kernel_rfl) ?_ ?_
     ·
      refine xs_allocQ rfl rfl rfl (xa_buildSlice rfl Tryz.underlying23 sz5 zv5 (by decide) (by decide) (vs := [(0, bv (1 : UInt8)), (1, bv (1 : UInt8))]) rfl (cs := #[bv (1 : UInt8), bv (1 : UInt8)]) (by kernel_rfl)) ?_
      intro bd56
      simp only [N, M, Value.cells]
      refine wxl_allocF 33 rfl rfl (by kernel_rfl) rfl (xa_buildSlice rfl Tryz.underlying44 sz3 zv3 (by decide) (by decide) (vs := [(0, iv (1 : Int)), (1, iv (1 : Int)), (2, iv (0 : Int)), (3, iv (0 : Int))]) rfl (cs := #[iv (1 : Int), iv (1 : Int), iv (0 : Int), iv (0 : Int)]) (by kernel_rfl)) ?_
      intro bd57
      simp only [N, M, Value.cells]
      refine wxl_take 34 rfl rfl (by kernel_rfl) (by kernel_rfl) (by kernel_rfl) (by kernel_rfl) (by kernel_rfl) (xy_call rfl (rc_go Tryz.func44 (by kernel_rfl) rfl) (fun w H => playsF_spec (⟨some ⟨bd56, 0, none⟩, 2, [(1 : UInt8), (1 : UInt8)]⟩ : Sl UInt8) (1 : UInt8) (0 : UInt8) (⟨some ⟨bd57, 0, none⟩, 4, [(1 : Int), (1 : Int), (0 : Int), (0 : Int)]⟩ : Sl Int) B_ hB _ ((slin_blk (H.ro_at 1 rfl) ⟨[], rfl⟩ eByteN (Nat.le_of_ble_eq_true rfl))) ((slin_blk (H.ro_at 0 rfl) ⟨[], rfl⟩ eIntN (Nat.le_of_ble_eq_true rfl))) (H.ro_at 12 rfl))) ?_
      simp only [N]
      refine wxl_take 35 rfl rfl (by kernel_rfl) (by kernel_rfl) (by kernel_rfl) (by kernel_rfl) (by kernel_rfl) (xy_run rfl (fun w H => rp_pickT rfl rfl (u := .bool (playsF ([(1 : UInt8), (1 : UInt8)] : List UInt8) (1 : UInt8) (0 : UInt8) ([(1 : Int), (1 : Int), (0 : Int), (0 : Int)] : List Int) B_)) rfl)) ?_
      simp only [N]
      refine wxl_take 36 rfl rfl (by kernel_rfl) (by kernel_rfl) (by kernel_rfl) (by kernel_rfl) (by kernel_rfl) (xy_run rfl (fun w H => rp_assign rfl (v := .bool (playsF ([(1 : UInt8), (1 : UInt8)] : List UInt8) (1 : UInt8) (0 : UInt8) ([(1 : Int), (1 : Int), (0 : Int), (0 : Int)] : List Int) B_)) rfl)) ?_
      simp only [N]
      refine wpX_done (by kernel_rfl) ?_ _
      clear H; intro w11 H; simp only [List.cons_append, List.nil_append] at H
      refine wp_ret ?_
      try simp only [Exit.inBlock, Exit.then, cutP]
      refine bodyPost_ret (results1 rfl (rv_tmp rfl)) rfl ?_
      have hF : (awakeF B_) = (playsF ([(1 : UInt8), (1 : UInt8)] : List UInt8) (1 : UInt8) (0 : UInt8) ([(1 : Int), (1 : Int), (0 : Int), (0 : Int)] : List Int) B_) := hFa
      rw [hF]
      exact ⟨rfl, H.ext⟩
     ·
      refine xs_allocQ rfl rfl rfl (xa_buildSlice rfl Tryz.underlying44 sz3 zv3 (by decide) (by decide) (vs := [(0, iv (1 : Int)), (1, iv (1 : Int)), (2, iv (0 : Int)), (3, iv (0 : Int))]) rfl (cs := #[iv (1 : Int), iv (1 : Int), iv (0 : Int), iv (0 : Int)]) (by kernel_rfl)) ?_
      intro bd57
      simp only [N, M, Value.cells]
      refine wxl_allocF 32 rfl rfl (by kernel_rfl) rfl (xa_buildSlice rfl Tryz.underlying23 sz5 zv5 (by decide) (by decide) (vs := [(0, bv (1 : UInt8)), (1, bv (1 : UInt8))]) rfl (cs := #[bv (1 : UInt8), bv (1 : UInt8)]) (by kernel_rfl)) ?_
      intro bd56
      simp only [N, M, Value.cells]
      refine wxl_take 34 rfl rfl (by kernel_rfl) (by kernel_rfl) (by kernel_rfl) (by kernel_rfl) (by kernel_rfl) (xy_call rfl (rc_go Tryz.func44 (by kernel_rfl) rfl) (fun w H => playsF_spec (⟨some ⟨bd56, 0, none⟩, 2, [(1 : UInt8), (1 : UInt8)]⟩ : Sl UInt8) (1 : UInt8) (0 : UInt8) (⟨some ⟨bd57, 0, none⟩, 4, [(1 : Int), (1 : Int), (0 : Int), (0 : Int)]⟩ : Sl Int) B_ hB _ ((slin_blk (H.ro_at 0 rfl) ⟨[], rfl⟩ eByteN (Nat.le_of_ble_eq_true rfl))) ((slin_blk (H.ro_at 1 rfl) ⟨[], rfl⟩ eIntN (Nat.le_of_ble_eq_true rfl))) (H.ro_at 12 rfl))) ?_
      simp only [N]
      refine wxl_take 35 rfl rfl (by kernel_rfl) (by kernel_rfl) (by kernel_rfl) (by kernel_rfl) (by kernel_rfl) (xy_run rfl (fun w H => rp_pickT rfl rfl (u := .bool (playsF ([(1 : UInt8), (1 : UInt8)] : List UInt8) (1 : UInt8) (0 : UInt8) ([(1 : Int), (1 : Int), (0 : Int), (0 : Int)] : List Int) B_)) rfl)) ?_
      simp only [N]
      refine wxl_take 36 rfl rfl (by kernel_rfl) (by kernel_rfl) (by kernel_rfl) (by kernel_rfl) (by kernel_rfl) (xy_run rfl (fun w H => rp_assign rfl (v := .bool (playsF ([(1 : UInt8), (1 : UInt8)] : List UInt8) (1 : UInt8) (0 : UInt8) ([(1 : Int), (1 : Int), (0 : Int), (0 : Int)] : List Int) B_)) rfl)) ?_
      simp only [N]
      refine wpX_done (by kernel_rfl) ?_ _
      clear H; intro w12 H; simp only [List.cons_append, List.nil_append] at H
      refine wp_ret ?_
      try simp only [Exit.inBlock, Exit.then, cutP]
      refine bodyPost_ret (results1 rfl (rv_tmp rfl)) rfl ?_
      have hF : (awakeF B_) = (playsF ([(1 : UInt8), (1 : UInt8)] : List UInt8) (1 : UInt8) (0 : UInt8) ([(1 : Int), (1 : Int), (0 : Int), (0 : Int)] : List Int) B_) := hFa
      rw [hF]
      exact ⟨rfl, H.ext⟩
    ·
     refine xs_allocQ rfl rfl rfl (xa_buildSlice rfl Tryz.underlying44 sz3 zv3 (by decide) (by decide) (vs := [(0, iv (0 : Int)), (1, iv (1 : Int)), (2, iv (0 : Int)), (3, iv (1 : Int))]) rfl (cs := #[iv (0 : Int), iv (1 : Int), iv (0 : Int), iv (1 : Int)]) (by kernel_rfl)) ?_
     intro bd52
     simp only [N, M, Value.cells]
     refine wxl_allocF 27 rfl rfl (by kernel_rfl) rfl (xa_buildSlice rfl Tryz.underlying23 sz5 zv5 (by decide) (by decide) (vs := [(0, bv (0 : UInt8)), (1, bv (1 : UInt8))]) rfl (cs := #[bv (0 : UInt8), bv (1 : UInt8)]) (by kernel_rfl)) ?_
     intro bd51
     simp only [N, M, Value.cells]
     refine wxl_take 29 rfl rfl (by kernel_rfl) (by kernel_rfl) (by kernel_rfl) (by kernel_rfl) (by kernel_rfl) (xy_call rfl (rc_go Tryz.func44 (by kernel_rfl) rfl) (fun w H => playsF_spec (⟨some ⟨bd51, 0, none⟩, 2, [(0 : UInt8), (1 : UInt8)]⟩ : Sl UInt8) (1 : UInt8) (1 : UInt8) (⟨some ⟨bd52, 0, none⟩, 4, [(0 : Int), (1 : Int), (0 : Int), (1 : Int)]⟩ : Sl Int) B_ hB _ ((slin_blk (H.ro_at 0 rfl) ⟨[], rfl⟩ eByteN (Nat.le_of_ble_eq_true rfl))) ((slin_blk (H.ro_at 1 rfl) ⟨[], rfl⟩ eIntN (Nat.le_of_ble_eq_true rfl))) (H.ro_at 10 rfl))) ?_
     simp only [N]
     refine wxl_take 30 rfl rfl (by kernel_rfl) (by kernel_rfl) (by kernel_rfl) (by kernel_rfl) (by kernel_rfl) (xy_run rfl (fun w H => rp_pickT rfl rfl (u := .bool (playsF ([(0 : UInt8), (1 : UInt8)] : List UInt8) (1 : UInt8) (1 : UInt8) ([(0 : Int), (1 : Int), (0 : Int), (1 : Int)] : List Int) B_)) rfl)) ?_
     simp only [N]
     refine wxl_take 31 rfl rfl (by kernel_rfl) (by kernel_rfl) (by kernel_rfl) (by kernel_rfl) (by kernel_rfl) (xy_run rfl (fun w H => rp_move rfl (v := .bool (playsF ([(0 : UInt8), (1 : UInt8)] : List UInt8) (1 : UInt8) (1 : UInt8) ([(0 : Int), (1 : Int), (0 : Int), (1 : Int)] : List Int) B_)) rfl)) ?_
     simp only [N]
     have hg5 : (playsF ([(0 : UInt8), (1 : UInt8)] : List UInt8) (1 : UInt8) (1 : UInt8) ([(0 : Int), (1 : Int), (0 : Int), (1 : Int)] : List Int) B_) = true := by rw [hB]; kernel_rfl
     simp only [hg5, Bool.true_and, Bool.and_true]
     refine wxl_each2 32 33 (by kernel_rfl) ?_ ?_
     ·
      refine xs_allocQ rfl rfl rfl (xa_buildSlice rfl Tryz.underlying23 sz5 zv5 (by decide) (by decide) (vs := [(0, bv (1 : UInt8)), (1, bv (1 : UInt8))]) rfl (cs := #[bv (1 : UInt8), bv (1 : UInt8)]) (by kernel_rfl)) ?_
      intro bd56
      simp only [N, M, Value.cells]
      refine wxl_allocF 33 rfl rfl (by kernel_rfl) rfl (xa_buildSlice rfl Tryz.underlying44 sz3 zv3 (by decide) (by decide) (vs := [(0, iv (1 : Int)), (1, iv (1 : Int)), (2, iv (0 : Int)), (3, iv (0 : Int))]) rfl (cs := #[iv (1 : Int), iv (1 : Int), iv (0 : Int), iv (0 : Int)]) (by kernel_rfl)) ?_
      intro bd57
      simp only [N, M, Value.cells]
      refine wxl_take 34 rfl rfl (by kernel_rfl) (by kernel_rfl) (by kernel_rfl) (by kernel_rfl) (by kernel_rfl) (xy_call rfl (rc_go Tryz.func44 (by kernel_rfl) rfl) (fun w H => playsF_spec (⟨some ⟨bd56, 0, none⟩, 2, [(1 : UInt8), (1 : UInt8)]⟩ : Sl UInt8) (1 : UInt8) (0 : UInt8) (⟨some ⟨bd57, 0, none⟩, 4, [(1 : Int), (1 : Int), (0 : Int), (0 : Int)]⟩ : Sl Int) B_ hB _ ((slin_blk (H.ro_at 1 rfl) ⟨[], rfl⟩ eByteN (Nat.le_of_ble_eq_true rfl))) ((slin_blk (H.ro_at 0 rfl) ⟨[], rfl⟩ eIntN (Nat.le_of_ble_eq_true rfl))) (H.ro_at 12 rfl))) ?_
      simp only [N]
      refine wxl_take 35 rfl rfl (by kernel_rfl) (by kernel_rfl) (by kernel_rfl) (by kernel_rfl) (by kernel_rfl) (xy_run rfl (fun w H => rp_pickT rfl rfl (u := .bool (playsF ([(1 : UInt8), (1 : UInt8)] : List UInt8) (1 : UInt8) (0 : UInt8) ([(1 : Int), (1 : Int), (0 : Int), (0 : Int)] : List Int) B_)) rfl)) ?_
      simp only [N]
      refine wxl_take 36 rfl rfl (by kernel_rfl) (by kernel_rfl) (by kernel_rfl) (by kernel_rfl) (by kernel_rfl) (xy_run rfl (fun w H => rp_assign rfl (v := .bool (playsF ([(1 : UInt8), (1 : UInt8)] : List UInt8) (1 : UInt8) (0 : UInt8) ([(1 : Int), (1 : Int), (0 : Int), (0 : Int)] : List Int) B_)) rfl)) ?_
      simp only [N]
      refine wpX_done (by kernel_rfl) ?_ _
      clear H; intro w13 H; simp only [List.cons_append, List.nil_append] at H
      refine wp_ret ?_
      try simp only [Exit.inBlock, Exit.then, cutP]
      refine bodyPost_ret (results1 rfl (rv_tmp rfl)) rfl ?_
      have hF : (awakeF B_) = (playsF ([(1 : UInt8), (1 : UInt8)] : List UInt8) (1 : UInt8) (0 : UInt8) ([(1 : Int), (1 : Int), (0 : Int), (0 : Int)] : List Int) B_) := hFa
      rw [hF]
      exact ⟨rfl, H.ext⟩
     ·
      refine xs_allocQ rfl rfl rfl (xa_buildSlice rfl Tryz.underlying44 sz3 zv3 (by decide) (by decide) (vs := [(0, iv (1 : Int)), (1, iv (1 : Int)), (2, iv (0 : Int)), (3, iv (0 : Int))]) rfl (cs := #[iv (1 : Int), iv (1 : Int), iv (0 : Int), iv (0 : Int)]) (by kernel_rfl)) ?_
      intro bd57
      simp only [N, M, Value.cells]
      refine wxl_allocF 32 rfl rfl (by kernel_rfl) rfl (xa_buildSlice rfl Tryz.underlying23 sz5 zv5 (by decide) (by decide) (vs := [(0, bv (1 : UInt8)), (1, bv (1 : UInt8))]) rfl (cs := #[bv (1 : UInt8), bv (1 : UInt8)]) (by kernel_rfl)) ?_
      intro bd56
      simp only [N, M, Value.cells]
      refine wxl_take 34 rfl rfl (by kernel_rfl) (by kernel_rfl) (by kernel_rfl) (by kernel_rfl) (by kernel_rfl) (xy_call rfl (rc_go Tryz.func44 (by kernel_rfl) rfl) (fun w H => playsF_spec (⟨some ⟨bd56, 0, none⟩, 2, [(1 : UInt8), (1 : UInt8)]⟩ : Sl UInt8) (1 : UInt8) (0 : UInt8) (⟨some ⟨bd57, 0, none⟩, 4, [(1 : Int), (1 : Int), (0 : Int), (0 : Int)]⟩ : Sl Int) B_ hB _ ((slin_blk (H.ro_at 0 rfl) ⟨[], rfl⟩ eByteN (Nat.le_of_ble_eq_true rfl))) ((slin_blk (H.ro_at 1 rfl) ⟨[], rfl⟩ eIntN (Nat.le_of_ble_eq_true rfl))) (H.ro_at 12 rfl))) ?_
      simp only [N]
      refine wxl_take 35 rfl rfl (by kernel_rfl) (by kernel_rfl) (by kernel_rfl) (by kernel_rfl) (by kernel_rfl) (xy_run rfl (fun w H => rp_pickT rfl rfl (u := .bool (playsF ([(1 : UInt8), (1 : UInt8)] : List UInt8) (1 : UInt8) (0 : UInt8) ([(1 : Int), (1 : Int), (0 : Int), (0 : Int)] : List Int) B_)) rfl)) ?_
      simp only [N]
      refine wxl_take 36 rfl rfl (by kernel_rfl) (by kernel_rfl) (by kernel_rfl) (by kernel_rfl) (by kernel_rfl) (xy_run rfl (fun w H => rp_assign rfl (v := .bool (playsF ([(1 : UInt8), (1 : UInt8)] : List UInt8) (1 : UInt8) (0 : UInt8) ([(1 : Int), (1 : Int), (0 : Int), (0 : Int)] : List Int) B_)) rfl)) ?_
      simp only [N]
      refine wpX_done (by kernel_rfl) ?_ _
      clear H; intro w14 H; simp only [List.cons_append, List.nil_append] at H
      refine wp_ret ?_
      try simp only [Exit.inBlock, Exit.then, cutP]
      refine bodyPost_ret (results1 rfl (rv_tmp rfl)) rfl ?_
      have hF : (awakeF B_) = (playsF ([(1 : UInt8), (1 : UInt8)] : List UInt8) (1 : UInt8) (0 : UInt8) ([(1 : Int), (1 : Int), (0 : Int), (0 : Int)] : List Int) B_) := hFa
      rw [hF]
      exact ⟨rfl, H.ext⟩
   ·
    refine xs_allocQ rfl rfl rfl (xa_buildSlice rfl Tryz.underlying44 sz3 zv3 (by decide) (by decide) (vs := [(0, iv (0 : Int)), (1, iv (0 : Int)), (2, iv (1 : Int)), (3, iv (1 : Int))]) rfl (cs := #[iv (0 : Int), iv (0 : Int), iv (1 : Int), iv (1 : Int)]) (by kernel_rfl)) ?_
    intro bd47
    simp only [N, M, Value.cells]
    refine wxl_allocF 22 rfl rfl (by kernel_rfl) rfl (xa_buildSlice rfl Tryz.underlying23 sz5 zv5 (by decide) (by decide) (vs := [(0, bv (0 : UInt8)), (1, bv (0 : UInt8))]) rfl (cs := #[bv (0 : UInt8), bv (0 : UInt8)]) (by kernel_rfl)) ?_
    intro bd46
    simp only [N, M, Value.cells]
    refine wxl_take 24 rfl rfl (by kernel_rfl) (by kernel_rfl) (by kernel_rfl) (by kernel_rfl) (by kernel_rfl) (xy_call rfl (rc_go Tryz.func44 (by kernel_rfl) rfl) (fun w H => playsF_spec (⟨some ⟨bd46, 0, none⟩, 2, [(0 : UInt8), (0 : UInt8)]⟩ : Sl UInt8) (0 : UInt8) (1 : UInt8) (⟨some ⟨bd47, 0, none⟩, 4, [(0 : Int), (0 : Int), (1 : Int), (1 : Int)]⟩ : Sl Int) B_ hB _ ((slin_blk (H.ro_at 0 rfl) ⟨[], rfl⟩ eByteN (Nat.le_of_ble_eq_true rfl))) ((slin_blk (H.ro_at 1 rfl) ⟨[], rfl⟩ eIntN (Nat.le_of_ble_eq_true rfl))) (H.ro_at 8 rfl))) ?_
    simp only [N]
    refine wxl_take 25 rfl rfl (by kernel_rfl) (by kernel_rfl) (by kernel_rfl) (by kernel_rfl) (by kernel_rfl) (xy_run rfl (fun w H => rp_pickT rfl rfl (u := .bool (playsF ([(0 : UInt8), (0 : UInt8)] : List UInt8) (0 : UInt8) (1 : UInt8) ([(0 : Int), (0 : Int), (1 : Int), (1 : Int)] : List Int) B_)) rfl)) ?_
    simp only [N]
    refine wxl_take 26 rfl rfl (by kernel_rfl) (by kernel_rfl) (by kernel_rfl) (by kernel_rfl) (by kernel_rfl) (xy_run rfl (fun w H => rp_move rfl (v := .bool (playsF ([(0 : UInt8), (0 : UInt8)] : List UInt8) (0 : UInt8) (1 : UInt8) ([(0 : Int), (0 : Int), (1 : Int), (1 : Int)] : List Int) B_)) rfl)) ?_
    simp only [N]
    have hg6 : (playsF ([(0 : UInt8), (0 : UInt8)] : List UInt8) (0 : UInt8) (1 : UInt8) ([(0 : Int), (0 : Int), (1 : Int), (1 : Int)] : List Int) B_) = true := by rw [hB]; kernel_rfl
    simp only [hg6, Bool.true_and, Bool.and_true]
    refine wxl_each2 27 28 (by kernel_rfl) ?_ ?_
    ·
     refine xs_allocQ rfl rfl rfl (xa_buildSlice rfl Tryz.underlying23 sz5 zv5 (by decide) (by decide) (vs := [(0, bv (0 : UInt8)), (1, bv (1 : UInt8))]) rfl (cs := #[bv (0 : UInt8), bv (1 : UInt8)]) (by kernel_rfl)) ?_
     intro bd51
     simp only [N, M, Value.cells]
     refine wxl_allocF 28 rfl rfl (by kernel_rfl) rfl (xa_buildSlice rfl Tryz.underlying44 sz3 zv3 (by decide) (by decide) (vs := [(0, iv (0 : Int)), (1, iv (1 : Int)), (2, iv (0 : Int)), (3, iv (1 : Int))]) rfl (cs := #[iv (0 : Int), iv (1 : Int), iv (0 : Int), iv (1 : Int)]) (by kernel_rfl)) ?_
     intro bd52
     simp only [N, M, Value.cells]
     refine wxl_take 29 rfl rfl (by kernel_rfl) (by kernel_rfl) (by kernel_rfl) (by kernel_rfl) (by kernel_rfl) (xy_call rfl (rc_go Tryz.func44 (by kernel_rfl) rfl) (fun w H => playsF_spec (⟨some ⟨bd51, 0, none⟩, 2, [(0 : UInt8), (1 : UInt8)]⟩ : Sl UInt8) (1 : UInt8) (1 : UInt8) (⟨some ⟨bd52, 0, none⟩, 4, [(0 : Int), (1 : Int), (0 : Int), (1 : Int)]⟩ : Sl Int) B_ hB _ ((slin_blk (H.ro_at 1 rfl) ⟨[], rfl⟩ eByteN (Nat.le_of_ble_eq_true rfl))) ((slin_blk (H.ro_at 0 rfl) ⟨[], rfl⟩ eIntN (Nat.le_of_ble_eq_true rfl))) (H.ro_at 10 rfl))) ?_
     simp only [N]
     refine wxl_take 30 rfl rfl (by kernel_rfl) (by kernel_rfl) (by kernel_rfl) (by kernel_rfl) (by kernel_rfl) (xy_run rfl (fun w H => rp_pickT rfl rfl (u := .bool (playsF ([(0 : UInt8), (1 : UInt8)] : List UInt8) (1 : UInt8) (1 : UInt8) ([(0 : Int), (1 : Int), (0 : Int), (1 : Int)] : List Int) B_)) rfl)) ?_
     simp only [N]
     refine wxl_take 31 rfl rfl (by kernel_rfl) (by kernel_rfl) (by kernel_rfl) (by kernel_rfl) (by kernel_rfl) (xy_run rfl (fun w H => rp_move rfl (v := .bool (playsF ([(0 : UInt8), (1 : UInt8)] : List UInt8) (1 : UInt8) (1 : UInt8) ([(0 : Int), (1 : Int), (0 : Int), (1 : Int)] : List Int) B_)) rfl)) ?_
     simp only [N]
     have hg7 : (playsF ([(0 : UInt8), (1 : UInt8)] : List UInt8) (1 : UInt8) (1 : UInt8) ([(0 : Int), (1 : Int), (0 : Int), (1 : Int)] : List Int) B_) = true := by rw [hB]; kernel_rfl
     simp only [hg7, Bool.true_and, Bool.and_true]
     refine wxl_each2 32 33 (by kernel_rfl) ?_ ?_
     ·
      refine xs_allocQ rfl rfl rfl (xa_buildSlice rfl Tryz.underlying23 sz5 zv5 (by decide) (by decide) (vs := [(0, bv (1 : UInt8)), (1, bv (1 : UInt8))]) rfl (cs := #[bv (1 : UInt8), bv (1 : UInt8)]) (by kernel_rfl)) ?_
      intro bd56
      simp only [N, M, Value.cells]
      refine wxl_allocF 33 rfl rfl (by kernel_rfl) rfl (xa_buildSlice rfl Tryz.underlying44 sz3 zv3 (by decide) (by decide) (vs := [(0, iv (1 : Int)), (1, iv (1 : Int)), (2, iv (0 : Int)), (3, iv (0 : Int))]) rfl (cs := #[iv (1 : Int), iv (1 : Int), iv (0 : Int), iv (0 : Int)]) (by kernel_rfl)) ?_
      intro bd57
      simp only [N, M, Value.cells]
      refine wxl_take 34 rfl rfl (by kernel_rfl) (by kernel_rfl) (by kernel_rfl) (by kernel_rfl) (by kernel_rfl) (xy_call rfl (rc_go Tryz.func44 (by kernel_rfl) rfl) (fun w H => playsF_spec (⟨some ⟨bd56, 0, none⟩, 2, [(1 : UInt8), (1 : UInt8)]⟩ : Sl UInt8) (1 : UInt8) (0 : UInt8) (⟨some ⟨bd57, 0, none⟩, 4, [(1 : Int), (1 : Int), (0 : Int), (0 : Int)]⟩ : Sl Int) B_ hB _ ((slin_blk (H.ro_at 1 rfl) ⟨[], rfl⟩ eByteN (Nat.le_of_ble_eq_true rfl))) ((slin_blk (H.ro_at 0 rfl) ⟨[], rfl⟩ eIntN (Nat.le_of_ble_eq_true rfl))) (H.ro_at 12 rfl))) ?_
      simp only [N]
      refine wxl_take 35 rfl rfl (by kernel_rfl) (by kernel_rfl) (by kernel_rfl) (by kernel_rfl) (by kernel_rfl) (xy_run rfl (fun w H => rp_pickT rfl rfl (u := .bool (playsF ([(1 : UInt8), (1 : UInt8)] : List UInt8) (1 : UInt8) (0 : UInt8) ([(1 : Int), (1 : Int), (0 : Int), (0 : Int)] : List Int) B_)) rfl)) ?_
      simp only [N]
      refine wxl_take 36 rfl rfl (by kernel_rfl) (by kernel_rfl) (by kernel_rfl) (by kernel_rfl) (by kernel_rfl) (xy_run rfl (fun w H => rp_assign rfl (v := .bool (playsF ([(1 : UInt8), (1 : UInt8)] : List UInt8) (1 : UInt8) (0 : UInt8) ([(1 : Int), (1 : Int), (0 : Int), (0 : Int)] : List Int) B_)) rfl)) ?_
      simp only [N]
      refine wpX_done (by kernel_rfl) ?_ _
      clear H; intro w15 H; simp only [List.cons_append, List.nil_append] at H
      refine wp_ret ?_
      try simp only [Exit.inBlock, Exit.then, cutP]
      refine bodyPost_ret (results1 rfl (rv_tmp rfl)) rfl ?_
      have hF : (awakeF B_) = (playsF ([(1 : UInt8), (1 : UInt8)] : List UInt8) (1 : UInt8) (0 : UInt8) ([(1 : Int), (1 : Int), (0 : Int), (0 : Int)] : List Int) B_) := hFa
      rw [hF]
      exact ⟨rfl, H.ext⟩
     ·
      refine xs_allocQ rfl rfl rfl (xa_buildSlice rfl Tryz.underlying44 sz3 zv3 (by decide) (by decide) (vs := [(0, iv (1 : Int)), (1, iv (1 : Int)), (2, iv (0 : Int)), (3, iv (0 : Int))]) rfl (cs := #[iv (1 : Int), iv (1 : Int), iv (0 : Int), iv (0 : Int)]) (by kernel_rfl)) ?_
      intro bd57
      simp only [N, M, Value.cells]
      refine wxl_allocF 32 rfl rfl (by kernel_rfl) rfl (xa_buildSlice rfl Tryz.underlying23 sz5 zv5 (by decide) (by decide) (vs := [(0, bv (1 : UInt8)), (1, bv (1 : UInt8))]) rfl (cs := #[bv (1 : UInt8), bv (1 : UInt8)]) (by kernel_rfl)) ?_
      intro bd56
      simp only [N, M, Value.cells]
      refine wxl_take 34 rfl rfl (by kernel_rfl) (by kernel_rfl) (by kernel_rfl) (by kernel_rfl) (by kernel_rfl) (xy_call rfl (rc_go Tryz.func44 (by kernel_rfl) rfl) (fun w H => playsF_spec (⟨some ⟨bd56, 0, none⟩, 2, [(1 : UInt8), (1 : UInt8)]⟩ : Sl UInt8) (1 : UInt8) (0 : UInt8) (⟨some ⟨bd57, 0, none⟩, 4, [(1 : Int), (1 : Int), (0 : Int), (0 : Int)]⟩ : Sl Int) B_ hB _ ((slin_blk (H.ro_at 0 rfl) ⟨[], rfl⟩ eByteN (Nat.le_of_ble_eq_true rfl))) ((slin_blk (H.ro_at 1 rfl) ⟨[], rfl⟩ eIntN (Nat.le_of_ble_eq_true rfl))) (H.ro_at 12 rfl))) ?_
      simp only [N]
      refine wxl_take 35 rfl rfl (by kernel_rfl) (by kernel_rfl) (by kernel_rfl) (by kernel_rfl) (by kernel_rfl) (xy_run rfl (fun w H => rp_pickT rfl rfl (u := .bool (playsF ([(1 : UInt8), (1 : UInt8)] : List UInt8) (1 : UInt8) (0 : UInt8) ([(1 : Int), (1 : Int), (0 : Int), (0 : Int)] : List Int) B_)) rfl)) ?_
      simp only [N]
      refine wxl_take 36 rfl rfl (by kernel_rfl) (by kernel_rfl) (by kernel_rfl) (by kernel_rfl) (by kernel_rfl) (xy_run rfl (fun w H => rp_assign rfl (v := .bool (playsF ([(1 : UInt8), (1 : UInt8)] : List UInt8) (1 : UInt8) (0 : UInt8) ([(1 : Int), (1 : Int), (0 : Int), (0 : Int)] : List Int) B_)) rfl)) ?_
      simp only [N]
      refine wpX_done (by kernel_rfl) ?_ _
      clear H; intro w16 H; simp only [List.cons_append, List.nil_append] at H
      refine wp_ret ?_
      try simp only [Exit.inBlock, Exit.then, cutP]
      refine bodyPost_ret (results1 rfl (rv_tmp rfl)) rfl ?_
      have hF : (awakeF B_) = (playsF ([(1 : UInt8), (1 : UInt8)] : List UInt8) (1 : UInt8) (0 : UInt8) ([(1 : Int), (1 : Int), (0 : Int), (0 : Int)] : List Int) B_) := hFa
      rw [hF]
      exact ⟨rfl, H.ext⟩
    ·
     refine xs_allocQ rfl rfl rfl (xa_buildSlice rfl Tryz.underlying44 sz3 zv3 (by decide) (by decide) (vs := [(0, iv (0 : Int)), (1, iv (1 : Int)), (2, iv (0 : Int)), (3, iv (1 : Int))]) rfl (cs := #[iv (0 : Int), iv (1 : Int), iv (0 : Int), iv (1 : Int)]) (by kernel_rfl)) ?_
     intro bd52
     simp only [N, M, Value.cells]
     refine wxl_allocF 27 rfl rfl (by kernel_rfl) rfl (xa_buildSlice rfl Tryz.underlying23 sz5 zv5 (by decide) (by decide) (vs := [(0, bv (0 : UInt8)), (1, bv (1 : UInt8))]) rfl (cs := #[bv (0 : UInt8), bv (1 : UInt8)]) (by kernel_rfl)) ?_
     intro bd51
     simp only [N, M, Value.cells]
     refine wxl_take 29 rfl rfl (by kernel_rfl) (by kernel_rfl) (by kernel_rfl) (by kernel_rfl) (by kernel_rfl) (xy_call rfl (rc_go Tryz.func44 (by kernel_rfl) rfl) (fun w H => playsF_spec (⟨some ⟨bd51, 0, none⟩, 2, [(0 : UInt8), (1 : UInt8)]⟩ : Sl UInt8) (1 : UInt8) (1 : UInt8) (⟨some ⟨bd52, 0, none⟩, 4, [(0 : Int), (1 : Int), (0 : Int), (1 : Int)]⟩ : Sl Int) B_ hB _ ((slin_blk (H.ro_at 0 rfl) ⟨[], rfl⟩ eByteN (Nat.le_of_ble_eq_true rfl))) ((slin_blk (H.ro_at 1 rfl) ⟨[], rfl⟩ eIntN (Nat.le_of_ble_eq_true rfl))) (H.ro_at 10 rfl))) ?_
     simp only [N]
     refine wxl_take 30 rfl rfl (by kernel_rfl) (by kernel_rfl) (by kernel_rfl) (by kernel_rfl) (by kernel_rfl) (xy_run rfl (fun w H => rp_pickT rfl rfl (u := .bool (playsF ([(0 : UInt8), (1 : UInt8)] : List UInt8) (1 : UInt8) (1 : UInt8) ([(0 : Int), (1 : Int), (0 : Int), (1 : Int)] : List Int) B_)) rfl)) ?_
     simp only [N]
     refine wxl_take 31 rfl rfl (by kernel_rfl) (by kernel_rfl) (by kernel_rfl) (by kernel_rfl) (by kernel_rfl) (xy_run rfl (fun w H => rp_move rfl (v := .bool (playsF ([(0 : UInt8), (1 : UInt8)] : List UInt8) (1 : UInt8) (1 : UInt8) ([(0 : Int), (1 : Int), (0 : Int), (1 : Int)] : List Int) B_)) rfl)) ?_
     simp only [N]
     have hg8 : (playsF ([(0 : UInt8), (1 : UInt8)] : List UInt8) (1 : UInt8) (1 : UInt8) ([(0 : Int), (1 : Int), (0 : Int), (1 : Int)] : List Int) B_) = true := by rw [hB]; kernel_rfl
     simp only [hg8, Bool.true_and, Bool.and_true]
     refine wxl_each2 32 33 (by kernel_rfl) ?_ ?_
     ·
      refine xs_allocQ rfl rfl rfl (xa_buildSlice rfl Tryz.underlying23 sz5 zv5 (by decide) (by decide) (vs := [(0, bv (1 : UInt8)), (1, bv (1 : UInt8))]) rfl (cs := #[bv (1 : UInt8), bv (1 : UInt8)]) (by kernel_rfl)) ?_
      intro bd56
      simp only [N, M, Value.cells]
      refine wxl_allocF 33 rfl rfl (by kernel_rfl) rfl (xa_buildSlice rfl Tryz.underlying44 sz3 zv3 (by decide) (by decide) (vs := [(0, iv (1 : Int)), (1, iv (1 : Int)), (2, iv (0 : Int)), (3, iv (0 : Int))]) rfl (cs := #[iv (1 : Int), iv (1 : Int), iv (0 : Int), iv (0 : Int)]) (by kernel_rfl)) ?_
      intro bd57
      simp only [N, M, Value.cells]
      refine wxl_take 34 rfl rfl (by kernel_rfl) (by kernel_rfl) (by kernel_rfl) (by kernel_rfl) (by kernel_rfl) (xy_call rfl (rc_go Tryz.func44 (by kernel_rfl) rfl) (fun w H => playsF_spec (⟨some ⟨bd56, 0, none⟩, 2, [(1 : UInt8), (1 : UInt8)]⟩ : Sl UInt8) (1 : UInt8) (0 : UInt8) (⟨some ⟨bd57, 0, none⟩, 4, [(1 : Int), (1 : Int), (0 : Int), (0 : Int)]⟩ : Sl Int) B_ hB _ ((slin_blk (H.ro_at 1 rfl) ⟨[], rfl⟩ eByteN (Nat.le_of_ble_eq_true rfl))) ((slin_blk (H.ro_at 0 rfl) ⟨[], rfl⟩ eIntN (Nat.le_of_ble_eq_true rfl))) (H.ro_at 12 rfl))) ?_
      simp only [N]
      refine wxl_take 35 rfl rfl (by kernel_rfl) (by kernel_rfl) (by kernel_rfl) (by kernel_rfl) (by kernel_rfl) (xy_run rfl (fun w H => rp_pickT rfl rfl (u := .bool (playsF ([(1 : UInt8), (1 : UInt8)] : List UInt8) (1 : UInt8) (0 : UInt8) ([(1 : Int), (1 : Int), (0 : Int), (0 : Int)] : List Int) B_)) rfl)) ?_
      simp only [N]
      refine wxl_take 36 rfl rfl (by kernel_rfl) (by kernel_rfl) (by kernel_rfl) (by kernel_rfl) (by kernel_rfl) (xy_run rfl (fun w H => rp_assign rfl (v := .bool (playsF ([(1 : UInt8), (1 : UInt8)] : List UInt8) (1 : UInt8) (0 : UInt8) ([(1 : Int), (1 : Int), (0 : Int), (0 : Int)] : List Int) B_)) rfl)) ?_
      simp only [N]
      refine wpX_done (by kernel_rfl) ?_ _
      clear H; intro w17 H; simp only [List.cons_append, List.nil_append] at H
      refine wp_ret ?_
      try simp only [Exit.inBlock, Exit.then, cutP]
      refine bodyPost_ret (results1 rfl (rv_tmp rfl)) rfl ?_
      have hF : (awakeF B_) = (playsF ([(1 : UInt8), (1 : UInt8)] : List UInt8) (1 : UInt8) (0 : UInt8) ([(1 : Int), (1 : Int), (0 : Int), (0 : Int)] : List Int) B_) := hFa
      rw [hF]
      exact ⟨rfl, H.ext⟩
     ·
      refine xs_allocQ rfl rfl rfl (xa_buildSlice rfl Tryz.underlying44 sz3 zv3 (by decide) (by decide) (vs := [(0, iv (1 : Int)), (1, iv (1 : Int)), (2, iv (0 : Int)), (3, iv (0 : Int))]) rfl (cs := #[iv (1 : Int), iv (1 : Int), iv (0 : Int), iv (0 : Int)]) (by kernel_rfl)) ?_
      intro bd57
      simp only [N, M, Value.cells]
      refine wxl_allocF 32 rfl rfl (by kernel_rfl) rfl (xa_buildSlice rfl Tryz.underlying23 sz5 zv5 (by decide) (by decide) (vs := [(0, bv (1 : UInt8)), (1, bv (1 : UInt8))]) rfl (cs := #[bv (1 : UInt8), bv (1 : UInt8)]) (by kernel_rfl)) ?_
      intro bd56
      simp only [N, M, Value.cells]
      refine wxl_take 34 rfl rfl (by kernel_rfl) (by kernel_rfl) (by kernel_rfl) (by kernel_rfl) (by kernel_rfl) (xy_call rfl (rc_go Tryz.func44 (by kernel_rfl) rfl) (fun w H => playsF_spec (⟨some ⟨bd56, 0, none⟩, 2, [(1 : UInt8), (1 : UInt8)]⟩ : Sl UInt8) (1 : UInt8) (0 : UInt8) (⟨some ⟨bd57, 0, none⟩, 4, [(1 : Int), (1 : Int), (0 : Int), (0 : Int)]⟩ : Sl Int) B_ hB _ ((slin_blk (H.ro_at 0 rfl) ⟨[], rfl⟩ eByteN (Nat.le_of_ble_eq_true rfl))) ((slin_blk (H.ro_at 1 rfl) ⟨[], rfl⟩ eIntN (Nat.le_of_ble_eq_true rfl))) (H.ro_at 12 rfl))) ?_
      simp only [N]
      refine wxl_take 35 rfl rfl (by kernel_rfl) (by kernel_rfl) (by kernel_rfl) (by kernel_rfl) (by kernel_rfl) (xy_run rfl (fun w H => rp_pickT rfl rfl (u := .bool (playsF ([(1 : UInt8), (1 : UInt8)] : List UInt8) (1 : UInt8) (0 : UInt8) ([(1 : Int), (1 : Int), (0 : Int), (0 : Int)] : List Int) B_)) rfl)) ?_
      simp only [N]
      refine wxl_take 36 rfl rfl (by kernel_rfl) (by kernel_rfl) (by kernel_rfl) (by kernel_rfl) (by kernel_rfl) (xy_run rfl (fun w H => rp_assign rfl (v := .bool (playsF ([(1 : UInt8), (1 : UInt8)] : List UInt8) (1 : UInt8) (0 : UInt8) ([(1 : Int), (1 : Int), (0 : Int), (0 : Int)] : List Int) B_)) rfl)) ?_
      simp only [N]
      refine wpX_done (by kernel_rfl) ?_ _
      clear H; intro w18 H; simp only [List.cons_append, List.nil_append] at H
      refine wp_ret ?_
      try simp only [Exit.inBlock, Exit.then, cutP]
      refine bodyPost_ret (results1 rfl (rv_tmp rfl)) rfl ?_
      have hF : (awakeF B_) = (playsF ([(1 : UInt8), (1 : UInt8)] : List UInt8) (1 : UInt8) (0 : UInt8) ([(1 : Int), (1 : Int), (0 : Int), (0 : Int)] : List Int) B_) := hFa
      rw [hF]
      exact ⟨rfl, H.ext⟩
  ·
   refine xs_allocQ rfl rfl rfl (xa_buildSlice rfl Tryz.underlying44 sz3 zv3 (by decide) (by decide) (vs := [(0, iv (0 : Int)), (1, iv (1 : Int))]) rfl (cs := #[iv (0 : Int), iv (1 : Int)]) (by kernel_rfl)) ?_
   intro bd42
   simp only [N, M, Value.cells]
   refine wxl_fresh 17 rfl rfl (by kernel_rfl) rfl (rc_go Tryz.func11 (by kernel_rfl) rfl) (fun w H => (by have hq := movesF_spec (bufF_q1 xd39_.1 xd39_.2.1 xd39_.2.2.1 xd39_.2.2.2.1 xd39_.2.2.2.2) ((startF B_).1) (by first | omega | (simp [-List.reduceReplicate]; done) | (simp [-List.reduceReplicate]; omega) | (simp [*, -List.reduceReplicate]; done) | (simp [*, -List.reduceReplicate]; omega)) _ (H.ro_at 1 rfl) (H.ro_at 5 rfl); rw [show (movesF (bufF_q1 xd39_.1 xd39_.2.1 xd39_.2.2.1 xd39_.2.2.2.1 xd39_.2.2.2.2) ((startF B_).1)) = (movesF B_ ((startF B_).1)) from by rw [← movesF_er (bufF_q1 xd39_.1 xd39_.2.1 xd39_.2.2.1 xd39_.2.2.2.1 xd39_.2.2.2.2), show er (bufF_q1 xd39_.1 xd39_.2.1 xd39_.2.2.1 xd39_.2.2.2.1 xd39_.2.2.2.2) = er B_ from (by rw [hB]; rfl), movesF_er]] at hq; exact hq)) ?_
   intro xd41_
   simp only [N, M, Value.cells]
   refine wxl_take 19 rfl rfl (by kernel_rfl) (by kernel_rfl) (by kernel_rfl) (by kernel_rfl) (by kernel_rfl) (xy_call rfl (rc_go Tryz.func28 (by kernel_rfl) rfl) (fun w H => intsF_spec (⟨xd41_.1, xd41_.2, (movesF B_ ((startF B_).1))⟩ : Sl Int) (⟨some ⟨bd42, 0, none⟩, 2, [(0 : Int), (1 : Int)]⟩ : Sl Int) _ (((H.ro_at 0 rfl))) ((slin_blk (H.ro_at 1 rfl) ⟨[], rfl⟩ eIntN (Nat.le_of_ble_eq_true rfl))))) ?_
   simp only [N]
   refine wxl_take 20 rfl rfl (by kernel_rfl) (by kernel_rfl) (by kernel_rfl) (by kernel_rfl) (by kernel_rfl) (xy_run rfl (fun w H => rp_pickT rfl rfl (u := .bool (intsF (movesF B_ ((startF B_).1)) ([(0 : Int), (1 : Int)] : List Int))) rfl)) ?_
   simp only [N]
   refine wxl_take 21 rfl rfl (by kernel_rfl) (by kernel_rfl) (by kernel_rfl) (by kernel_rfl) (by kernel_rfl) (xy_run rfl (fun w H => rp_move rfl (v := .bool (intsF (movesF B_ ((startF B_).1)) ([(0 : Int), (1 : Int)] : List Int))) rfl)) ?_
   simp only [N]
   have hg9 : (intsF (movesF B_ ((startF B_).1)) ([(0 : Int), (1 : Int)] : List Int)) = true := by rw [hB]; kernel_rfl
   simp only [hg9, Bool.true_and, Bool.and_true]
   refine wxl_each2 22 23 (by kernel_rfl) ?_ ?_
   ·
    refine xs_allocQ rfl rfl rfl (xa_buildSlice rfl Tryz.underlying23 sz5 zv5 (by decide) (by decide) (vs := [(0, bv (0 : UInt8)), (1, bv (0 : UInt8))]) rfl (cs := #[bv (0 : UInt8), bv (0 : UInt8)]) (by kernel_rfl)) ?_
    intro bd46
    simp only [N, M, Value.cells]
    refine wxl_allocF 23 rfl rfl (by kernel_rfl) rfl (xa_buildSlice rfl Tryz.underlying44 sz3 zv3 (by decide) (by decide) (vs := [(0, iv (0 : Int)), (1, iv (0 : Int)), (2, iv (1 : Int)), (3, iv (1 : Int))]) rfl (cs := #[iv (0 : Int), iv (0 : Int), iv (1 : Int), iv (1 : Int)]) (by kernel_rfl)) ?_
    intro bd47
    simp only [N, M, Value.cells]
    refine wxl_take 24 rfl rfl (by kernel_rfl) (by kernel_rfl) (by kernel_rfl) (by kernel_rfl) (by kernel_rfl) (xy_call rfl (rc_go Tryz.func44 (by kernel_rfl) rfl) (fun w H => playsF_spec (⟨some ⟨bd46, 0, none⟩, 2, [(0 : UInt8), (0 : UInt8)]⟩ : Sl UInt8) (0 : UInt8) (1 : UInt8) (⟨some ⟨bd47, 0, none⟩, 4, [(0 : Int), (0 : Int), (1 : Int), (1 : Int)]⟩ : Sl Int) B_ hB _ ((slin_blk (H.ro_at 1 rfl) ⟨[], rfl⟩ eByteN (Nat.le_of_ble_eq_true rfl))) ((slin_blk (H.ro_at 0 rfl) ⟨[], rfl⟩ eIntN (Nat.le_of_ble_eq_true rfl))) (H.ro_at 8 rfl))) ?_
    simp only [N]
    refine wxl_take 25 rfl rfl (by kernel_rfl) (by kernel_rfl) (by kernel_rfl) (by kernel_rfl) (by kernel_rfl) (xy_run rfl (fun w H => rp_pickT rfl rfl (u := .bool (playsF ([(0 : UInt8), (0 : UInt8)] : List UInt8) (0 : UInt8) (1 : UInt8) ([(0 : Int), (0 : Int), (1 : Int), (1 : Int)] : List Int) B_)) rfl)) ?_
    simp only [N]
    refine wxl_take 26 rfl rfl (by kernel_rfl) (by kernel_rfl) (by kernel_rfl) (by kernel_rfl) (by kernel_rfl) (xy_run rfl (fun w H => rp_move rfl (v := .bool (playsF ([(0 : UInt8), (0 : UInt8)] : List UInt8) (0 : UInt8) (1 : UInt8) ([(0 : Int), (0 : Int), (1 : Int), (1 : Int)] : List Int) B_)) rfl)) ?_
    simp only [N]
    have hg10 : (playsF ([(0 : UInt8), (0 : UInt8)] : List UInt8) (0 : UInt8) (1 : UInt8) ([(0 : Int), (0 : Int), (1 : Int), (1 : Int)] : List Int) B_) = true := by rw [hB]; kernel_rfl
    simp only [hg10, Bool.true_and, Bool.and_true]
    refine wxl_each2 27 28 (by kernel_rfl) ?_ ?_
    ·
     refine xs_allocQ rfl rfl rfl (xa_buildSlice rfl Tryz.underlying23 sz5 zv5 (by decide) (by decide) (vs := [(0, bv (0 : UInt8)), (1, bv (1 : UInt8))]) rfl (cs := #[bv (0 : UInt8), bv (1 : UInt8)]) (by kernel_rfl)) ?_
     intro bd51
     simp only [N, M, Value.cells]
     refine wxl_allocF 28 rfl rfl (by kernel_rfl) rfl (xa_buildSlice rfl Tryz.underlying44 sz3 zv3 (by decide) (by decide) (vs := [(0, iv (0 : Int)), (1, iv (1 : Int)), (2, iv (0 : Int)), (3, iv (1 : Int))]) rfl (cs := #[iv (0 : Int), iv (1 : Int), iv (0 : Int), iv (1 : Int)]) (by kernel_rfl)) ?_
     intro bd52
     simp only [N, M, Value.cells]
     refine wxl_take 29 rfl rfl (by kernel_rfl) (by kernel_rfl) (by kernel_rfl) (by kernel_rfl) (by kernel_rfl) (xy_call rfl (rc_go Tryz.func44 (by kernel_rfl) rfl) (fun w H => playsF_spec (⟨some ⟨bd51, 0, none⟩, 2, [(0 : UInt8), (1 : UInt8)]⟩ : Sl UInt8) (1 : UInt8) (1 : UInt8) (⟨some ⟨bd52, 0, none⟩, 4, [(0 : Int), (1 : Int), (0 : Int), (1 : Int)]⟩ : Sl Int) B_ hB _ ((slin_blk (H.ro_at 1 rfl) ⟨[], rfl⟩ eByteN (Nat.le_of_ble_eq_true rfl))) ((slin_blk (H.ro_at 0 rfl) ⟨[], rfl⟩ eIntN (Nat.le_of_ble_eq_true rfl))) (H.ro_at 10 rfl))) ?_
     simp only [N]
     refine wxl_take 30 rfl rfl (by kernel_rfl) (by kernel_rfl) (by kernel_rfl) (by kernel_rfl) (by kernel_rfl) (xy_run rfl (fun w H => rp_pickT rfl rfl (u := .bool (playsF ([(0 : UInt8), (1 : UInt8)] : List UInt8) (1 : UInt8) (1 : UInt8) ([(0 : Int), (1 : Int), (0 : Int), (1 : Int)] : List Int) B_)) rfl)) ?_
     simp only [N]
     refine wxl_take 31 rfl rfl (by kernel_rfl) (by kernel_rfl) (by kernel_rfl) (by kernel_rfl) (by kernel_rfl) (xy_run rfl (fun w H => rp_move rfl (v := .bool (playsF ([(0 : UInt8), (1 : UInt8)] : List UInt8) (1 : UInt8) (1 : UInt8) ([(0 : Int), (1 : Int), (0 : Int), (1 : Int)] : List Int) B_)) rfl)) ?_
     simp only [N]
     have hg11 : (playsF ([(0 : UInt8), (1 : UInt8)] : List UInt8) (1 : UInt8) (1 : UInt8) ([(0 : Int), (1 : Int), (0 : Int), (1 : Int)] : List Int) B_) = true := by rw [hB]; kernel_rfl
     simp only [hg11, Bool.true_and, Bool.and_true]
     refine wxl_each2 32 33 (by kernel_rfl) ?_ ?_
     ·
      refine xs_allocQ rfl rfl rfl (xa_buildSlice rfl Tryz.underlying23 sz5 zv5 (by decide) (by decide) (vs := [(0, bv (1 : UInt8)), (1, bv (1 : UInt8))]) rfl (cs := #[bv (1 : UInt8), bv (1 : UInt8)]) (by kernel_rfl)) ?_
      intro bd56
      simp only [N, M, Value.cells]
      refine wxl_allocF 33 rfl rfl (by kernel_rfl) rfl (xa_buildSlice rfl Tryz.underlying44 sz3 zv3 (by decide) (by decide) (vs := [(0, iv (1 : Int)), (1, iv (1 : Int)), (2, iv (0 : Int)), (3, iv (0 : Int))]) rfl (cs := #[iv (1 : Int), iv (1 : Int), iv (0 : Int), iv (0 : Int)]) (by kernel_rfl)) ?_
      intro bd57
      simp only [N, M, Value.cells]
      refine wxl_take 34 rfl rfl (by kernel_rfl) (by kernel_rfl) (by kernel_rfl) (by kernel_rfl) (by kernel_rfl) (xy_call rfl (rc_go Tryz.func44 (by kernel_rfl) rfl) (fun w H => playsF_spec (⟨some ⟨bd56, 0, none⟩, 2, [(1 : UInt8), (1 : UInt8)]⟩ : Sl UInt8) (1 : UInt8) (0 : UInt8) (⟨some ⟨bd57, 0, none⟩, 4, [(1 : Int), (1 : Int), (0 : Int), (0 : Int)]⟩ : Sl Int) B_ hB _ ((slin_blk (H.ro_at 1 rfl) ⟨[], rfl⟩ eByteN (Nat.le_of_ble_eq_true rfl))) ((slin_blk (H.ro_at 0 rfl) ⟨[], rfl⟩ eIntN (Nat.le_of_ble_eq_true rfl))) (H.ro_at 12 rfl))) ?_
      simp only [N]
      refine wxl_take 35 rfl rfl (by kernel_rfl) (by kernel_rfl) (by kernel_rfl) (by kernel_rfl) (by kernel_rfl) (xy_run rfl (fun w H => rp_pickT rfl rfl (u := .bool (playsF ([(1 : UInt8), (1 : UInt8)] : List UInt8) (1 : UInt8) (0 : UInt8) ([(1 : Int), (1 : Int), (0 : Int), (0 : Int)] : List Int) B_)) rfl)) ?_
      simp only [N]
      refine wxl_take 36 rfl rfl (by kernel_rfl) (by kernel_rfl) (by kernel_rfl) (by kernel_rfl) (by kernel_rfl) (xy_run rfl (fun w H => rp_assign rfl (v := .bool (playsF ([(1 : UInt8), (1 : UInt8)] : List UInt8) (1 : UInt8) (0 : UInt8) ([(1 : Int), (1 : Int), (0 : Int), (0 : Int)] : List Int) B_)) rfl)) ?_
      simp only [N]
      refine wpX_done (by kernel_rfl) ?_ _
      clear H; intro w19 H; simp only [List.cons_append, List.nil_append] at H
      refine wp_ret ?_
      try simp only [Exit.inBlock, Exit.then, cutP]
      refine bodyPost_ret (results1 rfl (rv_tmp rfl)) rfl ?_
      have hF : (awakeF B_) = (playsF ([(1 : UInt8), (1 : UInt8)] : List UInt8) (1 : UInt8) (0 : UInt8) ([(1 : Int), (1 : Int), (0 : Int), (0 : Int)] : List Int) B_) := hFa
      rw [hF]
      exact ⟨rfl, H.ext⟩
     ·
      refine xs_allocQ rfl rfl rfl (xa_buildSlice rfl Tryz.underlying44 sz3 zv3 (by decide) (by decide) (vs := [(0, iv (1 : Int)), (1, iv (1 : Int)), (2, iv (0 : Int)), (3, iv (0 : Int))]) rfl (cs := #[iv (1 : Int), iv (1 : Int), iv (0 : Int), iv (0 : Int)]) (by kernel_rfl)) ?_
      intro bd57
      simp only [N, M, Value.cells]
      refine wxl_allocF 32 rfl rfl (by kernel_rfl) rfl (xa_buildSlice rfl Tryz.underlying23 sz5 zv5 (by decide) (by decide) (vs := [(0, bv (1 : UInt8)), (1, bv (1 : UInt8))]) rfl (cs := #[bv (1 : UInt8), bv (1 : UInt8)]) (by kernel_rfl)) ?_
      intro bd56
      simp only [N, M, Value.cells]
      refine wxl_take 34 rfl rfl (by kernel_rfl) (by kernel_rfl) (by kernel_rfl) (by kernel_rfl) (by kernel_rfl) (xy_call rfl (rc_go Tryz.func44 (by kernel_rfl) rfl) (fun w H => playsF_spec (⟨some ⟨bd56, 0, none⟩, 2, [(1 : UInt8), (1 : UInt8)]⟩ : Sl UInt8) (1 : UInt8) (0 : UInt8) (⟨some ⟨bd57, 0, none⟩, 4, [(1 : Int), (1 : Int), (0 : Int), (0 : Int)]⟩ : Sl Int) B_ hB _ ((slin_blk (H.ro_at 0 rfl) ⟨[], rfl⟩ eByteN (Nat.le_of_ble_eq_true rfl))) ((slin_blk (H.ro_at 1 rfl) ⟨[], rfl⟩ eIntN (Nat.le_of_ble_eq_true rfl))) (H.ro_at 12 rfl))) ?_
      simp only [N]
      refine wxl_take 35 rfl rfl (by kernel_rfl) (by kernel_rfl) (by kernel_rfl) (by kernel_rfl) (by kernel_rfl) (xy_run rfl (fun w H => rp_pickT rfl rfl (u := .bool (playsF ([(1 : UInt8), (1 : UInt8)] : List UInt8) (1 : UInt8) (0 : UInt8) ([(1 : Int), (1 : Int), (0 : Int), (0 : Int)] : List Int) B_)) rfl)) ?_
      simp only [N]
      refine wxl_take 36 rfl rfl (by kernel_rfl) (by kernel_rfl) (by kernel_rfl) (by kernel_rfl) (by kernel_rfl) (xy_run rfl (fun w H => rp_assign rfl (v := .bool (playsF ([(1 : UInt8), (1 : UInt8)] : List UInt8) (1 : UInt8) (0 : UInt8) ([(1 : Int), (1 : Int), (0 : Int), (0 : Int)] : List Int) B_)) rfl)) ?_
      simp only [N]
      refine wpX_done (by kernel_rfl) ?_ _
      clear H; intro w20 H; simp only [List.cons_append, List.nil_append] at H
      refine wp_ret ?_
      try simp only [Exit.inBlock, Exit.then, cutP]
      refine bodyPost_ret (results1 rfl (rv_tmp rfl)) rfl ?_
      have hF : (awakeF B_) = (playsF ([(1 : UInt8), (1 : UInt8)] : List UInt8) (1 : UInt8) (0 : UInt8) ([(1 : Int), (1 : Int), (0 : Int), (0 : Int)] : List Int) B_) := hFa
      rw [hF]
      exact ⟨rfl, H.ext⟩
    ·
     refine xs_allocQ rfl rfl rfl (xa_buildSlice rfl Tryz.underlying44 sz3 zv3 (by decide) (by decide) (vs := [(0, iv (0 : Int)), (1, iv (1 : Int)), (2, iv (0 : Int)), (3, iv (1 : Int))]) rfl (cs := #[iv (0 : Int), iv (1 : Int), iv (0 : Int), iv (1 : Int)]) (by kernel_rfl)) ?_
     intro bd52
     simp only [N, M, Value.cells]
     refine wxl_allocF 27 rfl rfl (by kernel_rfl) rfl (xa_buildSlice rfl Tryz.underlying23 sz5 zv5 (by decide) (by decide) (vs := [(0, bv (0 : UInt8)), (1, bv (1 : UInt8))]) rfl (cs := #[bv (0 : UInt8), bv (1 : UInt8)]) (by kernel_rfl)) ?_
     intro bd51
     simp only [N, M, Value.cells]
     refine wxl_take 29 rfl rfl (by kernel_rfl) (by kernel_rfl) (by kernel_rfl) (by kernel_rfl) (by kernel_rfl) (xy_call rfl (rc_go Tryz.func44 (by kernel_rfl) rfl) (fun w H => playsF_spec (⟨some ⟨bd51, 0, none⟩, 2, [(0 : UInt8), (1 : UInt8)]⟩ : Sl UInt8) (1 : UInt8) (1 : UInt8) (⟨some ⟨bd52, 0, none⟩, 4, [(0 : Int), (1 : Int), (0 : Int), (1 : Int)]⟩ : Sl Int) B_ hB _ ((slin_blk (H.ro_at 0 rfl) ⟨[], rfl⟩ eByteN (Nat.le_of_ble_eq_true rfl))) ((slin_blk (H.ro_at 1 rfl) ⟨[], rfl⟩ eIntN (Nat.le_of_ble_eq_true rfl))) (H.ro_at 10 rfl))) ?_
     simp only [N]
     refine wxl_take 30 rfl rfl (by kernel_rfl) (by kernel_rfl) (by kernel_rfl) (by kernel_rfl) (by kernel_rfl) (xy_run rfl (fun w H => rp_pickT rfl rfl (u := .bool (playsF ([(0 : UInt8), (1 : UInt8)] : List UInt8) (1 : UInt8) (1 : UInt8) ([(0 : Int), (1 : Int), (0 : Int), (1 : Int)] : List Int) B_)) rfl)) ?_
     simp only [N]
     refine wxl_take 31 rfl rfl (by kernel_rfl) (by kernel_rfl) (by kernel_rfl) (by kernel_rfl) (by kernel_rfl) (xy_run rfl (fun w H => rp_move rfl (v := .bool (playsF ([(0 : UInt8), (1 : UInt8)] : List UInt8) (1 : UInt8) (1 : UInt8) ([(0 : Int), (1 : Int), (0 : Int), (1 : Int)] : List Int) B_)) rfl)) ?_
     simp only [N]
     have hg12 : (playsF ([(0 : UInt8), (1 : UInt8)] : List UInt8) (1 : UInt8) (1 : UInt8) ([(0 : Int), (1 : Int), (0 : Int), (1 : Int)] : List Int) B_) = true := by rw [hB]; kernel_rfl
     simp only [hg12, Bool.true_and, Bool.and_true]
     refine wxl_each2 32 33 (by kernel_rfl) ?_ ?_
     ·
      refine xs_allocQ rfl rfl rfl (xa_buildSlice rfl Tryz.underlying23 sz5 zv5 (by decide) (by decide) (vs := [(0, bv (1 : UInt8)), (1, bv (1 : UInt8))]) rfl (cs := #[bv (1 : UInt8), bv (1 : UInt8)]) (by kernel_rfl)) ?_
      intro bd56
      simp only [N, M, Value.cells]
      refine wxl_allocF 33 rfl rfl (by kernel_rfl) rfl (xa_buildSlice rfl Tryz.underlying44 sz3 zv3 (by decide) (by decide) (vs := [(0, iv (1 : Int)), (1, iv (1 : Int)), (2, iv (0 : Int)), (3, iv (0 : Int))]) rfl (cs := #[iv (1 : Int), iv (1 : Int), iv (0 : Int), iv (0 : Int)]) (by kernel_rfl)) ?_
      intro bd57
      simp only [N, M, Value.cells]
      refine wxl_take 34 rfl rfl (by kernel_rfl) (by kernel_rfl) (by kernel_rfl) (by kernel_rfl) (by kernel_rfl) (xy_call rfl (rc_go Tryz.func44 (by kernel_rfl) rfl) (fun w H => playsF_spec (⟨some ⟨bd56, 0, none⟩, 2, [(1 : UInt8), (1 : UInt8)]⟩ : Sl UInt8) (1 : UInt8) (0 : UInt8) (⟨some ⟨bd57, 0, none⟩, 4, [(1 : Int), (1 : Int), (0 : Int), (0 : Int)]⟩ : Sl Int) B_ hB _ ((slin_blk (H.ro_at 1 rfl) ⟨[], rfl⟩ eByteN (Nat.le_of_ble_eq_true rfl))) ((slin_blk (H.ro_at 0 rfl) ⟨[], rfl⟩ eIntN (Nat.le_of_ble_eq_true rfl))) (H.ro_at 12 rfl))) ?_
      simp only [N]
      refine wxl_take 35 rfl rfl (by kernel_rfl) (by kernel_rfl) (by kernel_rfl) (by kernel_rfl) (by kernel_rfl) (xy_run rfl (fun w H => rp_pickT rfl rfl (u := .bool (playsF ([(1 : UInt8), (1 : UInt8)] : List UInt8) (1 : UInt8) (0 : UInt8) ([(1 : Int), (1 : Int), (0 : Int), (0 : Int)] : List Int) B_)) rfl)) ?_
      simp only [N]
      refine wxl_take 36 rfl rfl (by kernel_rfl) (by kernel_rfl) (by kernel_rfl) (by kernel_rfl) (by kernel_rfl) (xy_run rfl (fun w H => rp_assign rfl (v := .bool (playsF ([(1 : UInt8), (1 : UInt8)] : List UInt8) (1 : UInt8) (0 : UInt8) ([(1 : Int), (1 : Int), (0 : Int), (0 : Int)] : List Int) B_)) rfl)) ?_
      simp only [N]
      refine wpX_done (by kernel_rfl) ?_ _
      clear H; intro w21 H; simp only [List.cons_append, List.nil_append] at H
      refine wp_ret ?_
      try simp only [Exit.inBlock, Exit.then, cutP]
      refine bodyPost_ret (results1 rfl (rv_tmp rfl)) rfl ?_
      have hF : (awakeF B_) = (playsF ([(1 : UInt8), (1 : UInt8)] : List UInt8) (1 : UInt8) (0 : UInt8) ([(1 : Int), (1 : Int), (0 : Int), (0 : Int)] : List Int) B_) := hFa
      rw [hF]
      exact ⟨rfl, H.ext⟩
     ·
      refine xs_allocQ rfl rfl rfl (xa_buildSlice rfl Tryz.underlying44 sz3 zv3 (by decide) (by decide) (vs := [(0, iv (1 : Int)), (1, iv (1 : Int)), (2, iv (0 : Int)), (3, iv (0 : Int))]) rfl (cs := #[iv (1 : Int), iv (1 : Int), iv (0 : Int), iv (0 : Int)]) (by kernel_rfl)) ?_
      intro bd57
      simp only [N, M, Value.cells]
      refine wxl_allocF 32 rfl rfl (by kernel_rfl) rfl (xa_buildSlice rfl Tryz.underlying23 sz5 zv5 (by decide) (by decide) (vs := [(0, bv (1 : UInt8)), (1, bv (1 : UInt8))]) rfl (cs := #[bv (1 : UInt8), bv (1 : UInt8)]) (by kernel_rfl)) ?_
      intro bd56
      simp only [N, M, Value.cells]
      refine wxl_take 34 rfl rfl (by kernel_rfl) (by kernel_rfl) (by kernel_rfl) (by kernel_rfl) (by kernel_rfl) (xy_call rfl (rc_go Tryz.func44 (by kernel_rfl) rfl) (fun w H => playsF_spec (⟨some ⟨bd56, 0, none⟩, 2, [(1 : UInt8), (1 : UInt8)]⟩ : Sl UInt8) (1 : UInt8) (0 : UInt8) (⟨some ⟨bd57, 0, none⟩, 4, [(1 : Int), (1 : Int), (0 : Int), (0 : Int)]⟩ : Sl Int) B_ hB _ ((slin_blk (H.ro_at 0 rfl) ⟨[], rfl⟩ eByteN (Nat.le_of_ble_eq_true rfl))) ((slin_blk (H.ro_at 1 rfl) ⟨[], rfl⟩ eIntN (Nat.le_of_ble_eq_true rfl))) (H.ro_at 12 rfl))) ?_
      simp only [N]
      refine wxl_take 35 rfl rfl (by kernel_rfl) (by kernel_rfl) (by kernel_rfl) (by kernel_rfl) (by kernel_rfl) (xy_run rfl (fun w H => rp_pickT rfl rfl (u := .bool (playsF ([(1 : UInt8), (1 : UInt8)] : List UInt8) (1 : UInt8) (0 : UInt8) ([(1 : Int), (1 : Int), (0 : Int), (0 : Int)] : List Int) B_)) rfl)) ?_
      simp only [N]
      refine wxl_take 36 rfl rfl (by kernel_rfl) (by kernel_rfl) (by kernel_rfl) (by kernel_rfl) (by kernel_rfl) (xy_run rfl (fun w H => rp_assign rfl (v := .bool (playsF ([(1 : UInt8), (1 : UInt8)] : List UInt8) (1 : UInt8) (0 : UInt8) ([(1 : Int), (1 : Int), (0 : Int), (0 : Int)] : List Int) B_)) rfl)) ?_
      simp only [N]
      refine wpX_done (by kernel_rfl) ?_ _
      clear H; intro w22 H; simp only [List.cons_append, List.nil_append] at H
      refine wp_ret ?_
      try simp only [Exit.inBlock, Exit.then, cutP]
      refine bodyPost_ret (results1 rfl (rv_tmp rfl)) rfl ?_
      have hF : (awakeF B_) = (playsF ([(1 : UInt8), (1 : UInt8)] : List UInt8) (1 : UInt8) (0 : UInt8) ([(1 : Int), (1 : Int), (0 : Int), (0 : Int)] : List Int) B_) := hFa
      rw [hF]
      exact ⟨rfl, H.ext⟩
   ·
    refine xs_allocQ rfl rfl rfl (xa_buildSlice rfl Tryz.underlying44 sz3 zv3 (by decide) (by decide) (vs := [(0, iv (0 : Int)), (1, iv (0 : Int)), (2, iv (1 : Int)), (3, iv (1 : Int))]) rfl (cs := #[iv (0 : Int), iv (0 : Int), iv (1 : Int), iv (1 : Int)]) (by kernel_rfl)) ?_
    intro bd47
    simp only [N, M, Value.cells]
    refine wxl_allocF 22 rfl rfl (by kernel_rfl) rfl (xa_buildSlice rfl Tryz.underlying23 sz5 zv5 (by decide) (by decide) (vs := [(0, bv (0 : UInt8)), (1, bv (0 : UInt8))]) rfl (cs := #[bv (0 : UInt8), bv (0 : UInt8)]) (by kernel_rfl)) ?_
    intro bd46
    simp only [N, M, Value.cells]
    refine wxl_take 24 rfl rfl (by kernel_rfl) (by kernel_rfl) (by kernel_rfl) (by kernel_rfl) (by kernel_rfl) (xy_call rfl (rc_go Tryz.func44 (by kernel_rfl) rfl) (fun w H => playsF_spec (⟨some ⟨bd46, 0, none⟩, 2, [(0 : UInt8), (0 : UInt8)]⟩ : Sl UInt8) (0 : UInt8) (1 : UInt8) (⟨some ⟨bd47, 0, none⟩, 4, [(0 : Int), (0 : Int), (1 : Int), (1 : Int)]⟩ : Sl Int) B_ hB _ ((slin_blk (H.ro_at 0 rfl) ⟨[], rfl⟩ eByteN (Nat.le_of_ble_eq_true rfl))) ((slin_blk (H.ro_at 1 rfl) ⟨[], rfl⟩ eIntN (Nat.le_of_ble_eq_true rfl))) (H.ro_at 8 rfl))) ?_
    simp only [N]
    refine wxl_take 25 rfl rfl (by kernel_rfl) (by kernel_rfl) (by kernel_rfl) (by kernel_rfl) (by kernel_rfl) (xy_run rfl (fun w H => rp_pickT rfl rfl (u := .bool (playsF ([(0 : UInt8), (0 : UInt8)] : List UInt8) (0 : UInt8) (1 : UInt8) ([(0 : Int), (0 : Int), (1 : Int), (1 : Int)] : List Int) B_)) rfl)) ?_
    simp only [N]
    refine wxl_take 26 rfl rfl (by kernel_rfl) (by kernel_rfl) (by kernel_rfl) (by kernel_rfl) (by kernel_rfl) (xy_run rfl (fun w H => rp_move rfl (v := .bool (playsF ([(0 : UInt8), (0 : UInt8)] : List UInt8) (0 : UInt8) (1 : UInt8) ([(0 : Int), (0 : Int), (1 : Int), (1 : Int)] : List Int) B_)) rfl)) ?_
    simp only [N]
    have hg13 : (playsF ([(0 : UInt8), (0 : UInt8)] : List UInt8) (0 : UInt8) (1 : UInt8) ([(0 : Int), (0 : Int), (1 : Int), (1 : Int)] : List Int) B_) = true := by rw [hB]; kernel_rfl
    simp only [hg13, Bool.true_and, Bool.and_true]
    refine wxl_each2 27 28 (by kernel_rfl) ?_ ?_
    ·
     refine xs_allocQ rfl rfl rfl (xa_buildSlice rfl Tryz.underlying23 sz5 zv5 (by decide) (by decide) (vs := [(0, bv (0 : UInt8)), (1, bv (1 : UInt8))]) rfl (cs := #[bv (0 : UInt8), bv (1 : UInt8)]) (by kernel_rfl)) ?_
     intro bd51
     simp only [N, M, Value.cells]
     refine wxl_allocF 28 rfl rfl (by kernel_rfl) rfl (xa_buildSlice rfl Tryz.underlying44 sz3 zv3 (by decide) (by decide) (vs := [(0, iv (0 : Int)), (1, iv (1 : Int)), (2, iv (0 : Int)), (3, iv (1 : Int))]) rfl (cs := #[iv (0 : Int), iv (1 : Int), iv (0 : Int), iv (1 : Int)]) (by kernel_rfl)) ?_
     intro bd52
     simp only [N, M, Value.cells]
     refine wxl_take 29 rfl rfl (by kernel_rfl) (by kernel_rfl) (by kernel_rfl) (by kernel_rfl) (by kernel_rfl) (xy_call rfl (rc_go Tryz.func44 (by kernel_rfl) rfl) (fun w H => playsF_spec (⟨some ⟨bd51, 0, none⟩, 2, [(0 : UInt8), (1 : UInt8)]⟩ : Sl UInt8) (1 : UInt8) (1 : UInt8) (⟨some ⟨bd52, 0, none⟩, 4, [(0 : Int), (1 : Int), (0 : Int), (1 : Int)]⟩ : Sl Int) B_ hB _ ((slin_blk (H.ro_at 1 rfl) ⟨[], rfl⟩ eByteN (Nat.le_of_ble_eq_true rfl))) ((slin_blk (H.ro_at 0 rfl) ⟨[], rfl⟩ eIntN (Nat.le_of_ble_eq_true rfl))) (H.ro_at 10 rfl))) ?_
     simp only [N]
     refine wxl_take 30 rfl rfl (by kernel_rfl) (by kernel_rfl) (by kernel_rfl) (by kernel_rfl) (by kernel_rfl) (xy_run rfl (fun w H => rp_pickT rfl rfl (u := .bool (playsF ([(0 : UInt8), (1 : UInt8)] : List UInt8) (1 : UInt8) (1 : UInt8) ([(0 : Int), (1 : Int), (0 : Int), (1 : Int)] : List Int) B_)) rfl)) ?_
     simp only [N]
     refine wxl_take 31 rfl rfl (by kernel_rfl) (by kernel_rfl) (by kernel_rfl) (by kernel_rfl) (by kernel_rfl) (xy_run rfl (fun w H => rp_move rfl (v := .bool (playsF ([(0 : UInt8), (1 : UInt8)] : List UInt8) (1 : UInt8) (1 : UInt8) ([(0 : Int), (1 : Int), (0 : Int), (1 : Int)] : List Int) B_)) rfl)) ?_
     simp only [N]
     have hg14 : (playsF ([(0 : UInt8), (1 : UInt8)] : List UInt8) (1 : UInt8) (1 : UInt8) ([(0 : Int), (1 : Int), (0 : Int), (1 : Int)] : List Int) B_) = true := by rw [hB]; kernel_rfl
     simp only [hg14, Bool.true_and, Bool.and_true]
     refine wxl_each2 32 33 (by kernel_rfl) ?_ ?_
     ·
      refine xs_allocQ rfl rfl rfl (xa_buildSlice rfl Tryz.underlying23 sz5 zv5 (by decide) (by decide) (vs := [(0, bv (1 : UInt8)), (1, bv (1 : UInt8))]) rfl (cs := #[bv (1 : UInt8), bv (1 : UInt8)]) (by kernel_rfl)) ?_
      intro bd56
      simp only [N, M, Value.cells]
      refine wxl_allocF 33 rfl rfl (by kernel_rfl) rfl (xa_buildSlice rfl Tryz.underlying44 sz3 zv3 (by decide) (by decide) (vs := [(0, iv (1 : Int)), (1, iv (1 : Int)), (2, iv (0 : Int)), (3, iv (0 : Int))]) rfl (cs := #[iv (1 : Int), iv (1 : Int), iv (0 : Int), iv (0 : Int)]) (by kernel_rfl)) ?_
      intro bd57
      simp only [N, M, Value.cells]
      refine wxl_take 34 rfl rfl (by kernel_rfl) (by kernel_rfl) (by kernel_rfl) (by kernel_rfl) (by kernel_rfl) (xy_call rfl (rc_go Tryz.func44 (by kernel_rfl) rfl) (fun w H => playsF_spec (⟨some ⟨bd56, 0, none⟩, 2, [(1 : UInt8), (1 : UInt8)]⟩ : Sl UInt8) (1 : UInt8) (0 : UInt8) (⟨some ⟨bd57, 0, none⟩, 4, [(1 : Int), (1 : Int), (0 : Int), (0 : Int)]⟩ : Sl Int) B_ hB _ ((slin_blk (H.ro_at 1 rfl) ⟨[], rfl⟩ eByteN (Nat.le_of_ble_eq_true rfl))) ((slin_blk (H.ro_at 0 rfl) ⟨[], rfl⟩ eIntN (Nat.le_of_ble_eq_true rfl))) (H.ro_at 12 rfl))) ?_
      simp only [N]
      refine wxl_take 35 rfl rfl (by kernel_rfl) (by kernel_rfl) (by kernel_rfl) (by kernel_rfl) (by kernel_rfl) (xy_run rfl (fun w H => rp_pickT rfl rfl (u := .bool (playsF ([(1 : UInt8), (1 : UInt8)] : List UInt8) (1 : UInt8) (0 : UInt8) ([(1 : Int), (1 : Int), (0 : Int), (0 : Int)] : List Int) B_)) rfl)) ?_
      simp only [N]
      refine wxl_take 36 rfl rfl (by kernel_rfl) (by kernel_rfl) (by kernel_rfl) (by kernel_rfl) (by kernel_rfl) (xy_run rfl (fun w H => rp_assign rfl (v := .bool (playsF ([(1 : UInt8), (1 : UInt8)] : List UInt8) (1 : UInt8) (0 : UInt8) ([(1 : Int), (1 : Int), (0 : Int), (0 : Int)] : List Int) B_)) rfl)) ?_
      simp only [N]
      refine wpX_done (by kernel_rfl) ?_ _
      clear H; intro w23 H; simp only [List.cons_append, List.nil_append] at H
      refine wp_ret ?_
      try simp only [Exit.inBlock, Exit.then, cutP]
      refine bodyPost_ret (results1 rfl (rv_tmp rfl)) rfl ?_
      have hF : (awakeF B_) = (playsF ([(1 : UInt8), (1 : UInt8)] : List UInt8) (1 : UInt8) (0 : UInt8) ([(1 : Int), (1 : Int), (0 : Int), (0 : Int)] : List Int) B_) := hFa
      rw [hF]
      exact ⟨rfl, H.ext⟩
     ·
      refine xs_allocQ rfl rfl rfl (xa_buildSlice rfl Tryz.underlying44 sz3 zv3 (by decide) (by decide) (vs := [(0, iv (1 : Int)), (1, iv (1 : Int)), (2, iv (0 : Int)), (3, iv (0 : Int))]) rfl (cs := #[iv (1 : Int), iv (1 : Int), iv (0 : Int), iv (0 : Int)]) (by kernel_rfl)) ?_
      intro bd57
      simp only [N, M, Value.cells]
      refine wxl_allocF 32 rfl rfl (by kernel_rfl) rfl (xa_buildSlice rfl Tryz.underlying23 sz5 zv5 (by decide) (by decide) (vs := [(0, bv (1 : UInt8)), (1, bv (1 : UInt8))]) rfl (cs := #[bv (1 : UInt8), bv (1 : UInt8)]) (by kernel_rfl)) ?_
      intro bd56
      simp only [N, M, Value.cells]
      refine wxl_take 34 rfl rfl (by kernel_rfl) (by kernel_rfl) (by kernel_rfl) (by kernel_rfl) (by kernel_rfl) (xy_call rfl (rc_go Tryz.func44 (by kernel_rfl) rfl) (fun w H => playsF_spec (⟨some ⟨bd56, 0, none⟩, 2, [(1 : UInt8), (1 : UInt8)]⟩ : Sl UInt8) (1 : UInt8) (0 : UInt8) (⟨some ⟨bd57, 0, none⟩, 4, [(1 : Int), (1 : Int), (0 : Int), (0 : Int)]⟩ : Sl Int) B_ hB _ ((slin_blk (H.ro_at 0 rfl) ⟨[], rfl⟩ eByteN (Nat.le_of_ble_eq_true rfl))) ((slin_blk (H.ro_at 1 rfl) ⟨[], rfl⟩ eIntN (Nat.le_of_ble_eq_true rfl))) (H.ro_at 12 rfl))) ?_
      simp only [N]
      refine wxl_take 35 rfl rfl (by kernel_rfl) (by kernel_rfl) (by kernel_rfl) (by kernel_rfl) (by kernel_rfl) (xy_run rfl (fun w H => rp_pickT rfl rfl (u := .bool (playsF ([(1 : UInt8), (1 : UInt8)] : List UInt8) (1 : UInt8) (0 : UInt8) ([(1 : Int), (1 : Int), (0 : Int), (0 : Int)] : List Int) B_)) rfl)) ?_
      simp only [N]
      refine wxl_take 36 rfl rfl (by kernel_rfl) (by kernel_rfl) (by kernel_rfl) (by kernel_rfl) (by kernel_rfl) (xy_run rfl (fun w H => rp_assign rfl (v := .bool (playsF ([(1 : UInt8), (1 : UInt8)] : List UInt8) (1 : UInt8) (0 : UInt8) ([(1 : Int), (1 : Int), (0 : Int), (0 : Int)] : List Int) B_)) rfl)) ?_
      simp only [N]
      refine wpX_done (by kernel_rfl) ?_ _
      clear H; intro w24 H; simp only [List.cons_append, List.nil_append] at H
      refine wp_ret ?_
      try simp only [Exit.inBlock, Exit.then, cutP]
      refine bodyPost_ret (results1 rfl (rv_tmp rfl)) rfl ?_
      have hF : (awakeF B_) = (playsF ([(1 : UInt8), (1 : UInt8)] : List UInt8) (1 : UInt8) (0 : UInt8) ([(1 : Int), (1 : Int), (0 : Int), (0 : Int)] : List Int) B_) := hFa
      rw [hF]
      exact ⟨rfl, H.ext⟩
    ·
     refine xs_allocQ rfl rfl rfl (xa_buildSlice rfl Tryz.underlying44 sz3 zv3 (by decide) (by decide) (vs := [(0, iv (0 : Int)), (1, iv (1 : Int)), (2, iv (0 : Int)), (3, iv (1 : Int))]) rfl (cs := #[iv (0 : Int), iv (1 : Int), iv (0 : Int), iv (1 : Int)]) (by kernel_rfl)) ?_
     intro bd52
     simp only [N, M, Value.cells]
     refine wxl_allocF 27 rfl rfl (by kernel_rfl) rfl (xa_buildSlice rfl Tryz.underlying23 sz5 zv5 (by decide) (by decide) (vs := [(0, bv (0 : UInt8)), (1, bv (1 : UInt8))]) rfl (cs := #[bv (0 : UInt8), bv (1 : UInt8)]) (by kernel_rfl)) ?_
     intro bd51
     simp only [N, M, Value.cells]
     refine wxl_take 29 rfl rfl (by kernel_rfl) (by kernel_rfl) (by kernel_rfl) (by kernel_rfl) (by kernel_rfl) (xy_call rfl (rc_go Tryz.func44 (by kernel_rfl) rfl) (fun w H => playsF_spec (⟨some ⟨bd51, 0, none⟩, 2, [(0 : UInt8), (1 : UInt8)]⟩ : Sl UInt8) (1 : UInt8) (1 : UInt8) (⟨some ⟨bd52, 0, none⟩, 4, [(0 : Int), (1 : Int), (0 : Int), (1 : Int)]⟩ : Sl Int) B_ hB _ ((slin_blk (H.ro_at 0 rfl) ⟨[], rfl⟩ eByteN (Nat.le_of_ble_eq_true rfl))) ((slin_blk (H.ro_at 1 rfl) ⟨[], rfl⟩ eIntN (Nat.le_of_ble_eq_true rfl))) (H.ro_at 10 rfl))) ?_
     simp only [N]
     refine wxl_take 30 rfl rfl (by kernel_rfl) (by kernel_rfl) (by kernel_rfl) (by kernel_rfl) (by kernel_rfl) (xy_run rfl (fun w H => rp_pickT rfl rfl (u := .bool (playsF ([(0 : UInt8), (1 : UInt8)] : List UInt8) (1 : UInt8) (1 : UInt8) ([(0 : Int), (1 : Int), (0 : Int), (1 : Int)] : List Int) B_)) rfl)) ?_
     simp only [N]
     refine wxl_take 31 rfl rfl (by kernel_rfl) (by kernel_rfl) (by kernel_rfl) (by kernel_rfl) (by kernel_rfl) (xy_run rfl (fun w H => rp_move rfl (v := .bool (playsF ([(0 : UInt8), (1 : UInt8)] : List UInt8) (1 : UInt8) (1 : UInt8) ([(0 : Int), (1 : Int), (0 : Int), (1 : Int)] : List Int) B_)) rfl)) ?_
     simp only [N]
     have hg15 : (playsF ([(0 : UInt8), (1 : UInt8)] : List UInt8) (1 : UInt8) (1 : UInt8) ([(0 : Int), (1 : Int), (0 : Int), (1 : Int)] : List Int) B_) = true := by rw [hB]; kernel_rfl
     simp only [hg15, Bool.true_and, Bool.and_true]
     refine wxl_each2 32 33 (by kernel_rfl) ?_ ?_
     ·
      refine xs_allocQ rfl rfl rfl (xa_buildSlice rfl Tryz.underlying23 sz5 zv5 (by decide) (by decide) (vs := [(0, bv (1 : UInt8)), (1, bv (1 : UInt8))]) rfl (cs := #[bv (1 : UInt8), bv (1 : UInt8)]) (by kernel_rfl)) ?_
      intro bd56
      simp only [N, M, Value.cells]
      refine wxl_allocF 33 rfl rfl (by kernel_rfl) rfl (xa_buildSlice rfl Tryz.underlying44 sz3 zv3 (by decide) (by decide) (vs := [(0, iv (1 : Int)), (1, iv (1 : Int)), (2, iv (0 : Int)), (3, iv (0 : Int))]) rfl (cs := #[iv (1 : Int), iv (1 : Int), iv (0 : Int), iv (0 : Int)]) (by kernel_rfl)) ?_
      intro bd57
      simp only [N, M, Value.cells]
      refine wxl_take 34 rfl rfl (by kernel_rfl) (by kernel_rfl) (by kernel_rfl) (by kernel_rfl) (by kernel_rfl) (xy_call rfl (rc_go Tryz.func44 (by kernel_rfl) rfl) (fun w H => playsF_spec (⟨some ⟨bd56, 0, none⟩, 2, [(1 : UInt8), (1 : UInt8)]⟩ : Sl UInt8) (1 : UInt8) (0 : UInt8) (⟨some ⟨bd57, 0, none⟩, 4, [(1 : Int), (1 : Int), (0 : Int), (0 : Int)]⟩ : Sl Int) B_ hB _ ((slin_blk (H.ro_at 1 rfl) ⟨[], rfl⟩ eByteN (Nat.le_of_ble_eq_true rfl))) ((slin_blk (H.ro_at 0 rfl) ⟨[], rfl⟩ eIntN (Nat.le_of_ble_eq_true rfl))) (H.ro_at 12 rfl))) ?_
      simp only [N]
      refine wxl_take 35 rfl rfl (by kernel_rfl) (by kernel_rfl) (by kernel_rfl) (by kernel_rfl) (by kernel_rfl) (xy_run rfl (fun w H => rp_pickT rfl rfl (u := .bool (playsF ([(1 : UInt8), (1 : UInt8)] : List UInt8) (1 : UInt8) (0 : UInt8) ([(1 : Int), (1 : Int), (0 : Int), (0 : Int)] : List Int) B_)) rfl)) ?_
      simp only [N]
      refine wxl_take 36 rfl rfl (by kernel_rfl) (by kernel_rfl) (by kernel_rfl) (by kernel_rfl) (by kernel_rfl) (xy_run rfl (fun w H => rp_assign rfl (v := .bool (playsF ([(1 : UInt8), (1 : UInt8)] : List UInt8) (1 : UInt8) (0 : UInt8) ([(1 : Int), (1 : Int), (0 : Int), (0 : Int)] : List Int) B_)) rfl)) ?_
      simp only [N]
      refine wpX_done (by kernel_rfl) ?_ _
      clear H; intro w25 H; simp only [List.cons_append, List.nil_append] at H
      refine wp_ret ?_
      try simp only [Exit.inBlock, Exit.then, cutP]
      refine bodyPost_ret (results1 rfl (rv_tmp rfl)) rfl ?_
      have hF : (awakeF B_) = (playsF ([(1 : UInt8), (1 : UInt8)] : List UInt8) (1 : UInt8) (0 : UInt8) ([(1 : Int), (1 : Int), (0 : Int), (0 : Int)] : List Int) B_) := hFa
      rw [hF]
      exact ⟨rfl, H.ext⟩
     ·
      refine xs_allocQ rfl rfl rfl (xa_buildSlice rfl Tryz.underlying44 sz3 zv3 (by decide) (by decide) (vs := [(0, iv (1 : Int)), (1, iv (1 : Int)), (2, iv (0 : Int)), (3, iv (0 : Int))]) rfl (cs := #[iv (1 : Int), iv (1 : Int), iv (0 : Int), iv (0 : Int)]) (by kernel_rfl)) ?_
      intro bd57
      simp only [N, M, Value.cells]
      refine wxl_allocF 32 rfl rfl (by kernel_rfl) rfl (xa_buildSlice rfl Tryz.underlying23 sz5 zv5 (by decide) (by decide) (vs := [(0, bv (1 : UInt8)), (1, bv (1 : UInt8))]) rfl (cs := #[bv (1 : UInt8), bv (1 : UInt8)]) (by kernel_rfl)) ?_
      intro bd56
      simp only [N, M, Value.cells]
      refine wxl_take 34 rfl rfl (by kernel_rfl) (by kernel_rfl) (by kernel_rfl) (by kernel_rfl) (by kernel_rfl) (xy_call rfl (rc_go Tryz.func44 (by kernel_rfl) rfl) (fun w H => playsF_spec (⟨some ⟨bd56, 0, none⟩, 2, [(1 : UInt8), (1 : UInt8)]⟩ : Sl UInt8) (1 : UInt8) (0 : UInt8) (⟨some ⟨bd57, 0, none⟩, 4, [(1 : Int), (1 : Int), (0 : Int), (0 : Int)]⟩ : Sl Int) B_ hB _ ((slin_blk (H.ro_at 0 rfl) ⟨[], rfl⟩ eByteN (Nat.le_of_ble_eq_true rfl))) ((slin_blk (H.ro_at 1 rfl) ⟨[], rfl⟩ eIntN (Nat.le_of_ble_eq_true rfl))) (H.ro_at 12 rfl))) ?_
      simp only [N]
      refine wxl_take 35 rfl rfl (by kernel_rfl) (by kernel_rfl) (by kernel_rfl) (by kernel_rfl) (by kernel_rfl) (xy_run rfl (fun w H => rp_pickT rfl rfl (u := .bool (playsF ([(1 : UInt8), (1 : UInt8)] : List UInt8) (1 : UInt8) (0 : UInt8) ([(1 : Int), (1 : Int), (0 : Int), (0 : Int)] : List Int) B_)) rfl)) ?_
      simp only [N]
      refine wxl_take 36 rfl rfl (by kernel_rfl) (by kernel_rfl) (by kernel_rfl) (by kernel_rfl) (by kernel_rfl) (xy_run rfl (fun w H => rp_assign rfl (v := .bool (playsF ([(1 : UInt8), (1 : UInt8)] : List UInt8) (1 : UInt8) (0 : UInt8) ([(1 : Int), (1 : Int), (0 : Int), (0 : Int)] : List Int) B_)) rfl)) ?_
      simp only [N]
      refine wpX_done (by kernel_rfl) ?_ _
      clear H; intro w26 H; simp only [List.cons_append, List.nil_append] at H
      refine wp_ret ?_
      try simp only [Exit.inBlock, Exit.then, cutP]
      refine bodyPost_ret (results1 rfl (rv_tmp rfl)) rfl ?_
      have hF : (awakeF B_) = (playsF ([(1 : UInt8), (1 : UInt8)] : List UInt8) (1 : UInt8) (0 : UInt8) ([(1 : Int), (1 : Int), (0 : Int), (0 : Int)] : List Int) B_) := hFa
      rw [hF]
      exact ⟨rfl, H.ext⟩
 ·
  refine xs_allocQ rfl rfl rfl (xa_buildSlice rfl Tryz.underlying44 sz3 zv3 (by decide) (by decide) (vs := [(0, iv (0 : Int)), (1, iv (1 : Int))]) rfl (cs := #[iv (0 : Int), iv (1 : Int)]) (by kernel_rfl)) ?_
  intro bd42
  simp only [N, M, Value.cells]
  refine wxl_fresh 15 rfl rfl (by kernel_rfl) rfl (rc_go Tryz.func43 (by kernel_rfl) rfl) (fun w H => bufF_spec _) ?_
  intro xd39_
  simp only [N, M, Value.cells]
  refine wxl_fresh 17 rfl rfl (by kernel_rfl) rfl (rc_go Tryz.func11 (by kernel_rfl) rfl) (fun w H => (by have hq := movesF_spec (bufF_q1 xd39_.1 xd39_.2.1 xd39_.2.2.1 xd39_.2.2.2.1 xd39_.2.2.2.2) ((startF B_).1) (by first | omega | (simp [-List.reduceReplicate]; done) | (simp [-List.reduceReplicate]; omega) | (simp [*, -List.reduceReplicate]; done) | (simp [*, -List.reduceReplicate]; omega)) _ (H.ro_at 0 rfl) (H.ro_at 5 rfl); rw [show (movesF (bufF_q1 xd39_.1 xd39_.2.1 xd39_.2.2.1 xd39_.2.2.2.1 xd39_.2.2.2.2) ((startF B_).1)) = (movesF B_ ((startF B_).1)) from by rw [← movesF_er (bufF_q1 xd39_.1 xd39_.2.1 xd39_.2.2.1 xd39_.2.2.2.1 xd39_.2.2.2.2), show er (bufF_q1 xd39_.1 xd39_.2.1 xd39_.2.2.1 xd39_.2.2.2.1 xd39_.2.2.2.2) = er B_ from (by rw [hB]; rfl), movesF_er]] at hq; exact hq)) ?_
  intro xd41_
  simp only [N, M, Value.cells]
  refine wxl_take 19 rfl rfl (by kernel_rfl) (by kernel_rfl) (by kernel_rfl) (by kernel_rfl) (by kernel_rfl) (xy_call rfl (rc_go Tryz.func28 (by kernel_rfl) rfl) (fun w H => intsF_spec (⟨xd41_.1, xd41_.2, (movesF B_ ((startF B_).1))⟩ : Sl Int) (⟨some ⟨bd42, 0, none⟩, 2, [(0 : Int), (1 : Int)]⟩ : Sl Int) _ (((H.ro_at 0 rfl))) ((slin_blk (H.ro_at 2 rfl) ⟨[], rfl⟩ eIntN (Nat.le_of_ble_eq_true rfl))))) ?_
  simp only [N]
  refine wxl_take 20 rfl rfl (by kernel_rfl) (by kernel_rfl) (by kernel_rfl) (by kernel_rfl) (by kernel_rfl) (xy_run rfl (fun w H => rp_pickT rfl rfl (u := .bool (intsF (movesF B_ ((startF B_).1)) ([(0 : Int), (1 : Int)] : List Int))) rfl)) ?_
  simp only [N]
  refine wxl_take 21 rfl rfl (by kernel_rfl) (by kernel_rfl) (by kernel_rfl) (by kernel_rfl) (by kernel_rfl) (xy_run rfl (fun w H => rp_move rfl (v := .bool (intsF (movesF B_ ((startF B_).1)) ([(0 : Int), (1 : Int)] : List Int))) rfl)) ?_
  simp only [N]
  have hg16 : (intsF (movesF B_ ((startF B_).1)) ([(0 : Int), (1 : Int)] : List Int)) = true := by rw [hB]; kernel_rfl
  simp only [hg16, Bool.true_and, Bool.and_true]
  refine wxl_each2 22 23 (by kernel_rfl) ?_ ?_
  ·
   refine xs_allocQ rfl rfl rfl (xa_buildSlice rfl Tryz.underlying23 sz5 zv5 (by decide) (by decide) (vs := [(0, bv (0 : UInt8)), (1, bv (0 : UInt8))]) rfl (cs := #[bv (0 : UInt8), bv (0 : UInt8)]) (by kernel_rfl)) ?_
   intro bd46
   simp only [N, M, Value.cells]
   refine wxl_allocF 23 rfl rfl (by kernel_rfl) rfl (xa_buildSlice rfl Tryz.underlying44 sz3 zv3 (by decide) (by decide) (vs := [(0, iv (0 : Int)), (1, iv (0 : Int)), (2, iv (1 : Int)), (3, iv (1 : Int))]) rfl (cs := #[iv (0 : Int), iv (0 : Int), iv (1 : Int), iv (1 : Int)]) (by kernel_rfl)) ?_
   intro bd47
   simp only [N, M, Value.cells]
   refine wxl_take 24 rfl rfl (by kernel_rfl) (by kernel_rfl) (by kernel_rfl) (by kernel_rfl) (by kernel_rfl) (xy_call rfl (rc_go Tryz.func44 (by kernel_rfl) rfl) (fun w H => playsF_spec (⟨some ⟨bd46, 0, none⟩, 2, [(0 : UInt8), (0 : UInt8)]⟩ : Sl UInt8) (0 : UInt8) (1 : UInt8) (⟨some ⟨bd47, 0, none⟩, 4, [(0 : Int), (0 : Int), (1 : Int), (1 : Int)]⟩ : Sl Int) B_ hB _ ((slin_blk (H.ro_at 1 rfl) ⟨[], rfl⟩ eByteN (Nat.le_of_ble_eq_true rfl))) ((slin_blk (H.ro_at 0 rfl) ⟨[], rfl⟩ eIntN (Nat.le_of_ble_eq_true rfl))) (H.ro_at 8 rfl))) ?_
   simp only [N]
   refine wxl_take 25 rfl rfl (by kernel_rfl) (by kernel_rfl) (by kernel_rfl) (by kernel_rfl) (by kernel_rfl) (xy_run rfl (fun w H => rp_pickT rfl rfl (u := .bool (playsF ([(0 : UInt8), (0 : UInt8)] : List UInt8) (0 : UInt8) (1 : UInt8) ([(0 : Int), (0 : Int), (1 : Int), (1 : Int)] : List Int) B_)) rfl)) ?_
   simp only [N]
   refine wxl_take 26 rfl rfl (by kernel_rfl) (by kernel_rfl) (by kernel_rfl) (by kernel_rfl) (by kernel_rfl) (xy_run rfl (fun w H => rp_move rfl (v := .bool (playsF ([(0 : UInt8), (0 : UInt8)] : List UInt8) (0 : UInt8) (1 : UInt8) ([(0 : Int), (0 : Int), (1 : Int), (1 : Int)] : List Int) B_)) rfl)) ?_
   simp only [N]
   have hg17 : (playsF ([(0 : UInt8), (0 : UInt8)] : List UInt8) (0 : UInt8) (1 : UInt8) ([(0 : Int), (0 : Int), (1 : Int), (1 : Int)] : List Int) B_) = true := by rw [hB]; kernel_rfl
   simp only [hg17, Bool.true_and, Bool.and_true]
   refine wxl_each2 27 28 (by kernel_rfl) ?_ ?_
   ·
    refine xs_allocQ rfl rfl rfl (xa_buildSlice rfl Tryz.underlying23 sz5 zv5 (by decide) (by decide) (vs := [(0, bv (0 : UInt8)), (1, bv (1 : UInt8))]) rfl (cs := #[bv (0 : UInt8), bv (1 : UInt8)]) (by kernel_rfl)) ?_
    intro bd51
    simp only [N, M, Value.cells]
    refine wxl_allocF 28 rfl rfl (by kernel_rfl) rfl (xa_buildSlice rfl Tryz.underlying44 sz3 zv3 (by decide) (by decide) (vs := [(0, iv (0 : Int)), (1, iv (1 : Int)), (2, iv (0 : Int)), (3, iv (1 : Int))]) rfl (cs := #[iv (0 : Int), iv (1 : Int), iv (0 : Int), iv (1 : Int)]) (by kernel_rfl)) ?_
    intro bd52
    simp only [N, M, Value.cells]
    refine wxl_take 29 rfl rfl (by kernel_rfl) (by kernel_rfl) (by kernel_rfl) (by kernel_rfl) (by kernel_rfl) (xy_call rfl (rc_go Tryz.func44 (by kernel_rfl) rfl) (fun w H => playsF_spec (⟨some ⟨bd51, 0, none⟩, 2, [(0 : UInt8), (1 : UInt8)]⟩ : Sl UInt8) (1 : UInt8) (1 : UInt8) (⟨some ⟨bd52, 0, none⟩, 4, [(0 : Int), (1 : Int), (0 : Int), (1 : Int)]⟩ : Sl Int) B_ hB _ ((slin_blk (H.ro_at 1 rfl) ⟨[], rfl⟩ eByteN (Nat.le_of_ble_eq_true rfl))) ((slin_blk (H.ro_at 0 rfl) ⟨[], rfl⟩ eIntN (Nat.le_of_ble_eq_true rfl))) (H.ro_at 10 rfl))) ?_
    simp only [N]
    refine wxl_take 30 rfl rfl (by kernel_rfl) (by kernel_rfl) (by kernel_rfl) (by kernel_rfl) (by kernel_rfl) (xy_run rfl (fun w H => rp_pickT rfl rfl (u := .bool (playsF ([(0 : UInt8), (1 : UInt8)] : List UInt8) (1 : UInt8) (1 : UInt8) ([(0 : Int), (1 : Int), (0 : Int), (1 : Int)] : List Int) B_)) rfl)) ?_
    simp only [N]
    refine wxl_take 31 rfl rfl (by kernel_rfl) (by kernel_rfl) (by kernel_rfl) (by kernel_rfl) (by kernel_rfl) (xy_run rfl (fun w H => rp_move rfl (v := .bool (playsF ([(0 : UInt8), (1 : UInt8)] : List UInt8) (1 : UInt8) (1 : UInt8) ([(0 : Int), (1 : Int), (0 : Int), (1 : Int)] : List Int) B_)) rfl)) ?_
    simp only [N]
    have hg18 : (playsF ([(0 : UInt8), (1 : UInt8)] : List UInt8) (1 : UInt8) (1 : UInt8) ([(0 : Int), (1 : Int), (0 : Int), (1 : Int)] : List Int) B_) = true := by rw [hB]; kernel_rfl
    simp only [hg18, Bool.true_and, Bool.and_true]
    refine wxl_each2 32 33 (by kernel_rfl) ?_ ?_
    ·
     refine xs_allocQ rfl rfl rfl (xa_buildSlice rfl Tryz.underlying23 sz5 zv5 (by decide) (by decide) (vs := [(0, bv (1 : UInt8)), (1, bv (1 : UInt8))]) rfl (cs := #[bv (1 : UInt8), bv (1 : UInt8)]) (by kernel_rfl)) ?_
     intro bd56
     simp only [N, M, Value.cells]
     refine wxl_allocF 33 rfl rfl (by kernel_rfl) rfl (xa_buildSlice rfl Tryz.underlying44 sz3 zv3 (by decide) (by decide) (vs := [(0, iv (1 : Int)), (1, iv (1 : Int)), (2, iv (0 : Int)), (3, iv (0 : Int))]) rfl (cs := #[iv (1 : Int), iv (1 : Int), iv (0 : Int), iv (0 : Int)]) (by kernel_rfl)) ?_
     intro bd57
     simp only [N, M, Value.cells]
     refine wxl_take 34 rfl rfl (by kernel_rfl) (by kernel_rfl) (by kernel_rfl) (by kernel_rfl) (by kernel_rfl) (xy_call rfl (rc_go Tryz.func44 (by kernel_rfl) rfl) (fun w H => playsF_spec (⟨some ⟨bd56, 0, none⟩, 2, [(1 : UInt8), (1 : UInt8)]⟩ : Sl UInt8) (1 : UInt8) (0 : UInt8) (⟨some ⟨bd57, 0, none⟩, 4, [(1 : Int), (1 : Int), (0 : Int), (0 : Int)]⟩ : Sl Int) B_ hB _ ((slin_blk (H.ro_at 1 rfl) ⟨[], rfl⟩ eByteN (Nat.le_of_ble_eq_true rfl))) ((slin_blk (H.ro_at 0 rfl) ⟨[], rfl⟩ eIntN (Nat.le_of_ble_eq_true rfl))) (H.ro_at 12 rfl))) ?_
     simp only [N]
     refine wxl_take 35 rfl rfl (by kernel_rfl) (by kernel_rfl) (by kernel_rfl) (by kernel_rfl) (by kernel_rfl) (xy_run rfl (fun w H => rp_pickT rfl rfl (u := .bool (playsF ([(1 : UInt8), (1 : UInt8)] : List UInt8) (1 : UInt8) (0 : UInt8) ([(1 : Int), (1 : Int), (0 : Int), (0 : Int)] : List Int) B_)) rfl)) ?_
     simp only [N]
     refine wxl_take 36 rfl rfl (by kernel_rfl) (by kernel_rfl) (by kernel_rfl) (by kernel_rfl) (by kernel_rfl) (xy_run rfl (fun w H => rp_assign rfl (v := .bool (playsF ([(1 : UInt8), (1 : UInt8)] : List UInt8) (1 : UInt8) (0 : UInt8) ([(1 : Int), (1 : Int), (0 : Int), (0 : Int)] : List Int) B_)) rfl)) ?_
     simp only [N]
     refine wpX_done (by kernel_rfl) ?_ _
     clear H; intro w27 H; simp only [List.cons_append, List.nil_append] at H
     refine wp_ret ?_
     try simp only [Exit.inBlock, Exit.then, cutP]
     refine bodyPost_ret (results1 rfl (rv_tmp rfl)) rfl ?_
     have hF : (awakeF B_) = (playsF ([(1 : UInt8), (1 : UInt8)] : List UInt8) (1 : UInt8) (0 : UInt8) ([(1 : Int), (1 : Int), (0 : Int), (0 : Int)] : List Int) B_) := hFa
     rw [hF]
     exact ⟨rfl, H.ext⟩
    ·
     refine xs_allocQ rfl rfl rfl (xa_buildSlice rfl Tryz.underlying44 sz3 zv3 (by decide) (by decide) (vs := [(0, iv (1 : Int)), (1, iv (1 : Int)), (2, iv (0 : Int)), (3, iv (0 : Int))]) rfl (cs := #[iv (1 : Int), iv (1 : Int), iv (0 : Int), iv (0 : Int)]) (by kernel_rfl)) ?_
     intro bd57
     simp only [N, M, Value.cells]
     refine wxl_allocF 32 rfl rfl (by kernel_rfl) rfl (xa_buildSlice rfl Tryz.underlying23 sz5 zv5 (by decide) (by decide) (vs := [(0, bv (1 : UInt8)), (1, bv (1 : UInt8))]) rfl (cs := #[bv (1 : UInt8), bv (1 : UInt8)]) (by kernel_rfl)) ?_
     intro bd56
     simp only [N, M, Value.cells]
     refine wxl_take 34 rfl rfl (by kernel_rfl) (by kernel_rfl) (by kernel_rfl) (by kernel_rfl) (by kernel_rfl) (xy_call rfl (rc_go Tryz.func44 (by kernel_rfl) rfl) (fun w H => playsF_spec (⟨some ⟨bd56, 0, none⟩, 2, [(1 : UInt8), (1 : UInt8)]⟩ : Sl UInt8) (1 : UInt8) (0 : UInt8) (⟨some ⟨bd57, 0, none⟩, 4, [(1 : Int), (1 : Int), (0 : Int), (0 : Int)]⟩ : Sl Int) B_ hB _ ((slin_blk (H.ro_at 0 rfl) ⟨[], rfl⟩ eByteN (Nat.le_of_ble_eq_true rfl))) ((slin_blk (H.ro_at 1 rfl) ⟨[], rfl⟩ eIntN (Nat.le_of_ble_eq_true rfl))) (H.ro_at 12 rfl))) ?_
     simp only [N]
     refine wxl_take 35 rfl rfl (by kernel_rfl) (by kernel_rfl) (by kernel_rfl) (by kernel_rfl) (by kernel_rfl) (xy_run rfl (fun w H => rp_pickT rfl rfl (u := .bool (playsF ([(1 : UInt8), (1 : UInt8)] : List UInt8) (1 : UInt8) (0 : UInt8) ([(1 : Int), (1 : Int), (0 : Int), (0 : Int)] : List Int) B_)) rfl)) ?_
     simp only [N]
     refine wxl_take 36 rfl rfl (by kernel_rfl) (by kernel_rfl) (by kernel_rfl) (by kernel_rfl) (by kernel_rfl) (xy_run rfl (fun w H => rp_assign rfl (v := .bool (playsF ([(1 : UInt8), (1 : UInt8)] : List UInt8) (1 : UInt8) (0 : UInt8) ([(1 : Int), (1 : Int), (0 : Int), (0 : Int)] : List Int) B_)) rfl)) ?_
     simp only [N]
     refine wpX_done (by kernel_rfl) ?_ _
     clear H; intro w28 H; simp only [List.cons_append, List.nil_append] at H
     refine wp_ret ?_
     try simp only [Exit.inBlock, Exit.then, cutP]
     refine bodyPost_ret (results1 rfl (rv_tmp rfl)) rfl ?_
     have hF : (awakeF B_) = (playsF ([(1 : UInt8), (1 : UInt8)] : List UInt8) (1 : UInt8) (0 : UInt8) ([(1 : Int), (1 : Int), (0 : Int), (0 : Int)] : List Int) B_) := hFa
     rw [hF]
     exact ⟨rfl, H.ext⟩
   ·
    refine xs_allocQ rfl rfl rfl (xa_buildSlice rfl Tryz.underlying44 sz3 zv3 (by decide) (by decide) (vs := [(0, iv (0 : Int)), (1, iv (1 : Int)), (2, iv (0 : Int)), (3, iv (1 : Int))]) rfl (cs := #[iv (0 : Int), iv (1 : Int), iv (0 : Int), iv (1 : Int)]) (by kernel_rfl)) ?_
    intro bd52
    simp only [N, M, Value.cells]
    refine wxl_allocF 27 rfl rfl (by kernel_rfl) rfl (xa_buildSlice rfl Tryz.underlying23 sz5 zv5 (by decide) (by decide) (vs := [(0, bv (0 : UInt8)), (1, bv (1 : UInt8))]) rfl (cs := #[bv (0 : UInt8), bv (1 : UInt8)]) (by kernel_rfl)) ?_
    intro bd51
    simp only [N, M, Value.cells]
    refine wxl_take 29 rfl rfl (by kernel_rfl) (by kernel_rfl) (by kernel_rfl) (by kernel_rfl) (by kernel_rfl) (xy_call rfl (rc_go Tryz.func44 (by kernel_rfl) rfl) (fun w H => playsF_spec (⟨some ⟨bd51, 0, none⟩, 2, [(0 : UInt8), (1 : UInt8)]⟩ : Sl UInt8) (1 : UInt8) (1 : UInt8) (⟨some ⟨bd52, 0, none⟩, 4, [(0 : Int), (1 : Int), (0 : Int), (1 : Int)]⟩ : Sl Int) B_ hB _ ((slin_blk (H.ro_at 0 rfl) ⟨[], rfl⟩ eByteN (Nat.le_of_ble_eq_true rfl))) ((slin_blk (H.ro_at 1 rfl) ⟨[], rfl⟩ eIntN (Nat.le_of_ble_eq_true rfl))) (H.ro_at 10 rfl))) ?_
    simp only [N]
    refine wxl_take 30 rfl rfl (by kernel_rfl) (by kernel_rfl) (by kernel_rfl) (by kernel_rfl) (by kernel_rfl) (xy_run rfl (fun w H => rp_pickT rfl rfl (u := .bool (playsF ([(0 : UInt8), (1 : UInt8)] : List UInt8) (1 : UInt8) (1 : UInt8) ([(0 : Int), (1 : Int), (0 : Int), (1 : Int)] : List Int) B_)) rfl)) ?_
    simp only [N]
    refine wxl_take 31 rfl rfl (by kernel_rfl) (by kernel_rfl) (by kernel_rfl) (by kernel_rfl) (by kernel_rfl) (xy_run rfl (fun w H => rp_move rfl (v := .bool (playsF ([(0 : UInt8), (1 : UInt8)] : List UInt8) (1 : UInt8) (1 : UInt8) ([(0 : Int), (1 : Int), (0 : Int), (1 : Int)] : List Int) B_)) rfl)) ?_
    simp only [N]
    have hg19 : (playsF ([(0 : UInt8), (1 : UInt8)] : List UInt8) (1 : UInt8) (1 : UInt8) ([(0 : Int), (1 : Int), (0 : Int), (1 : Int)] : List Int) B_) = true := by rw [hB]; kernel_rfl
    simp only [hg19, Bool.true_and, Bool.and_true]
    refine wxl_each2 32 33 (by kernel_rfl) ?_ ?_
    ·
     refine xs_allocQ rfl rfl rfl (xa_buildSlice rfl Tryz.underlying23 sz5 zv5 (by decide) (by decide) (vs := [(0, bv (1 : UInt8)), (1, bv (1 : UInt8))]) rfl (cs := #[bv (1 : UInt8), bv (1 : UInt8)]) (by kernel_rfl)) ?_
     intro bd56
     simp only [N, M, Value.cells]
     refine wxl_allocF 33 rfl rfl (by kernel_rfl) rfl (xa_buildSlice rfl Tryz.underlying44 sz3 zv3 (by decide) (by decide) (vs := [(0, iv (1 : Int)), (1, iv (1 : Int)), (2, iv (0 : Int)), (3, iv (0 : Int))]) rfl (cs := #[iv (1 : Int), iv (1 : Int), iv (0 : Int), iv (0 : Int)]) (by kernel_rfl)) ?_
     intro bd57
     simp only [N, M, Value.cells]
     refine wxl_take 34 rfl rfl (by kernel_rfl) (by kernel_rfl) (by kernel_rfl) (by kernel_rfl) (by kernel_rfl) (xy_call rfl (rc_go Tryz.func44 (by kernel_rfl) rfl) (fun w H => playsF_spec (⟨some ⟨bd56, 0, none⟩, 2, [(1 : UInt8), (1 : UInt8)]⟩ : Sl UInt8) (1 : UInt8) (0 : UInt8) (⟨some ⟨bd57, 0, none⟩, 4, [(1 : Int), (1 : Int), (0 : Int), (0 : Int)]⟩ : Sl Int) B_ hB _ ((slin_blk (H.ro_at 1 rfl) ⟨[], rfl⟩ eByteN (Nat.le_of_ble_eq_true rfl))) ((slin_blk (H.ro_at 0 rfl) ⟨[], rfl⟩ eIntN (Nat.le_of_ble_eq_true rfl))) (H.ro_at 12 rfl))) ?_
     simp only [N]
     refine wxl_take 35 rfl rfl (by kernel_rfl) (by kernel_rfl) (by kernel_rfl) (by kernel_rfl) (by kernel_rfl) (xy_run rfl (fun w H => rp_pickT rfl rfl (u := .bool (playsF ([(1 : UInt8), (1 : UInt8)] : List UInt8) (1 : UInt8) (0 : UInt8) ([(1 : Int), (1 : Int), (0 : Int), (0 : Int)] : List Int) B_)) rfl)) ?_
     simp only [N]
     refine wxl_take 36 rfl rfl (by kernel_rfl) (by kernel_rfl) (by kernel_rfl) (by kernel_rfl) (by kernel_rfl) (xy_run rfl (fun w H => rp_assign rfl (v := .bool (playsF ([(1 : UInt8), (1 : UInt8)] : List UInt8) (1 : UInt8) (0 : UInt8) ([(1 : Int), (1 : Int), (0 : Int), (0 : Int)] : List Int) B_)) rfl)) ?_
     simp only [N]
     refine wpX_done (by kernel_rfl) ?_ _
     clear H; intro w29 H; simp only [List.cons_append, List.nil_append] at H
     refine wp_ret ?_
     try simp only [Exit.inBlock, Exit.then, cutP]
     refine bodyPost_ret (results1 rfl (rv_tmp rfl)) rfl ?_
     have hF : (awakeF B_) = (playsF ([(1 : UInt8), (1 : UInt8)] : List UInt8) (1 : UInt8) (0 : UInt8) ([(1 : Int), (1 : Int), (0 : Int), (0 : Int)] : List Int) B_) := hFa
     rw [hF]
     exact ⟨rfl, H.ext⟩
    ·
     refine xs_allocQ rfl rfl rfl (xa_buildSlice rfl Tryz.underlying44 sz3 zv3 (by decide) (by decide) (vs := [(0, iv (1 : Int)), (1, iv (1 : Int)), (2, iv (0 : Int)), (3, iv (0 : Int))]) rfl (cs := #[iv (1 : Int), iv (1 : Int), iv (0 : Int), iv (0 : Int)]) (by kernel_rfl)) ?_
     intro bd57
     simp only [N, M, Value.cells]
     refine wxl_allocF 32 rfl rfl (by kernel_rfl) rfl (xa_buildSlice rfl Tryz.underlying23 sz5 zv5 (by decide) (by decide) (vs := [(0, bv (1 : UInt8)), (1, bv (1 : UInt8))]) rfl (cs := #[bv (1 : UInt8), bv (1 : UInt8)]) (by kernel_rfl)) ?_
     intro bd56
     simp only [N, M, Value.cells]
     refine wxl_take 34 rfl rfl (by kernel_rfl) (by kernel_rfl) (by kernel_rfl) (by kernel_rfl) (by kernel_rfl) (xy_call rfl (rc_go Tryz.func44 (by kernel_rfl) rfl) (fun w H => playsF_spec (⟨some ⟨bd56, 0, none⟩, 2, [(1 : UInt8), (1 : UInt8)]⟩ : Sl UInt8) (1 : UInt8) (0 : UInt8) (⟨some ⟨bd57, 0, none⟩, 4, [(1 : Int), (1 : Int), (0 : Int), (0 : Int)]⟩ : Sl Int) B_ hB _ ((slin_blk (H.ro_at 0 rfl) ⟨[], rfl⟩ eByteN (Nat.le_of_ble_eq_true rfl))) ((slin_blk (H.ro_at 1 rfl) ⟨[], rfl⟩ eIntN (Nat.le_of_ble_eq_true rfl))) (H.ro_at 12 rfl))) ?_
     simp only [N]
     refine wxl_take 35 rfl rfl (by kernel_rfl) (by kernel_rfl) (by kernel_rfl) (by kernel_rfl) (by kernel_rfl) (xy_run rfl (fun w H => rp_pickT rfl rfl (u := .bool (playsF ([(1 : UInt8), (1 : UInt8)] : List UInt8) (1 : UInt8) (0 : UInt8) ([(1 : Int), (1 : Int), (0 : Int), (0 : Int)] : List Int) B_)) rfl)) ?_
     simp only [N]
     refine wxl_take 36 rfl rfl (by kernel_rfl) (by kernel_rfl) (by kernel_rfl) (by kernel_rfl) (by kernel_rfl) (xy_run rfl (fun w H => rp_assign rfl (v := .bool (playsF ([(1 : UInt8), (1 : UInt8)] : List UInt8) (1 : UInt8) (0 : UInt8) ([(1 : Int), (1 : Int), (0 : Int), (0 : Int)] : List Int) B_)) rfl)) ?_
     simp only [N]
     refine wpX_done (by kernel_rfl) ?_ _
     clear H; intro w30 H; simp only [List.cons_append, List.nil_append] at H
     refine wp_ret ?_
     try simp only [Exit.inBlock, Exit.then, cutP]
     refine bodyPost_ret (results1 rfl (rv_tmp rfl)) rfl ?_
     have hF : (awakeF B_) = (playsF ([(1 : UInt8), (1 : UInt8)] : List UInt8) (1 : UInt8) (0 : UInt8) ([(1 : Int), (1 : Int), (0 : Int), (0 : Int)] : List Int) B_) := hFa
     rw [hF]
     exact ⟨rfl, H.ext⟩
  ·
   refine xs_allocQ rfl rfl rfl (xa_buildSlice rfl Tryz.underlying44 sz3 zv3 (by decide) (by decide) (vs := [(0, iv (0 : Int)), (1, iv (0 : Int)), (2, iv (1 : Int)), (3, iv (1 : Int))]) rfl (cs := #[iv (0 : Int), iv (0 : Int), iv (1 : Int), iv (1 : Int)]) (by kernel_rfl)) ?_
   intro bd47
   simp only [N, M, Value.cells]
   refine wxl_allocF 22 rfl rfl (by kernel_rfl) rfl (xa_buildSlice rfl Tryz.underlying23 sz5 zv5 (by decide) (by decide) (vs := [(0, bv (0 : UInt8)), (1, bv (0 : UInt8))]) rfl (cs := #[bv (0 : UInt8), bv (0 : UInt8)]) (by kernel_rfl)) ?_
   intro bd46
   simp only [N, M, Value.cells]
   refine wxl_take 24 rfl rfl (by kernel_rfl) (by kernel_rfl) (by kernel_rfl) (by kernel_rfl) (by kernel_rfl) (xy_call rfl (rc_go Tryz.func44 (by kernel_rfl) rfl) (fun w H => playsF_spec (⟨some ⟨bd46, 0, none⟩, 2, [(0 : UInt8), (0 : UInt8)]⟩ : Sl UInt8) (0 : UInt8) (1 : UInt8) (⟨some ⟨bd47, 0, none⟩, 4, [(0 : Int), (0 : Int), (1 : Int), (1 : Int)]⟩ : Sl Int) B_ hB _ ((slin_blk (H.ro_at 0 rfl) ⟨[], rfl⟩ eByteN (Nat.le_of_ble_eq_true rfl))) ((slin_blk (H.ro_at 1 rfl) ⟨[], rfl⟩ eIntN (Nat.le_of_ble_eq_true rfl))) (H.ro_at 8 rfl))) ?_
   simp only [N]
   refine wxl_take 25 rfl rfl (by kernel_rfl) (by kernel_rfl) (by kernel_rfl) (by kernel_rfl) (by kernel_rfl) (xy_run rfl (fun w H => rp_pickT rfl rfl (u := .bool (playsF ([(0 : UInt8), (0 : UInt8)] : List UInt8) (0 : UInt8) (1 : UInt8) ([(0 : Int), (0 : Int), (1 : Int), (1 : Int)] : List Int) B_)) rfl)) ?_
   simp only [N]
   refine wxl_take 26 rfl rfl (by kernel_rfl) (by kernel_rfl) (by kernel_rfl) (by kernel_rfl) (by kernel_rfl) (xy_run rfl (fun w H => rp_move rfl (v := .bool (playsF ([(0 : UInt8), (0 : UInt8)] : List UInt8) (0 : UInt8) (1 : UInt8) ([(0 : Int), (0 : Int), (1 : Int), (1 : Int)] : List Int) B_)) rfl)) ?_
   simp only [N]
   have hg20 : (playsF ([(0 : UInt8), (0 : UInt8)] : List UInt8) (0 : UInt8) (1 : UInt8) ([(0 : Int), (0 : Int), (1 : Int), (1 : Int)] : List Int) B_) = true := by rw [hB]; kernel_rfl
   simp only [hg20, Bool.true_and, Bool.and_true]
   refine wxl_each2 27 28 (by kernel_rfl) ?_ ?_
   ·
    refine xs_allocQ rfl rfl rfl (xa_buildSlice rfl Tryz.underlying23 sz5 zv5 (by decide) (by decide) (vs := [(0, bv (0 : UInt8)), (1, bv (1 : UInt8))]) rfl (cs := #[bv (0 : UInt8), bv (1 : UInt8)]) (by kernel_rfl)) ?_
    intro bd51
    simp only [N, M, Value.cells]
    refine wxl_allocF 28 rfl rfl (by kernel_rfl) rfl (xa_buildSlice rfl Tryz.underlying44 sz3 zv3 (by decide) (by decide) (vs := [(0, iv (0 : Int)), (1, iv (1 : Int)), (2, iv (0 : Int)), (3, iv (1 : Int))]) rfl (cs := #[iv (0 : Int), iv (1 : Int), iv (0 : Int), iv (1 : Int)]) (by kernel_rfl)) ?_
    intro bd52
    simp only [N, M, Value.cells]
    refine wxl_take 29 rfl rfl (by kernel_rfl) (by kernel_rfl) (by kernel_rfl) (by kernel_rfl) (by kernel_rfl) (xy_call rfl (rc_go Tryz.func44 (by kernel_rfl) rfl) (fun w H => playsF_spec (⟨some ⟨bd51, 0, none⟩, 2, [(0 : UInt8), (1 : UInt8)]⟩ : Sl UInt8) (1 : UInt8) (1 : UInt8) (⟨some ⟨bd52, 0, none⟩, 4, [(0 : Int), (1 : Int), (0 : Int), (1 : Int)]⟩ : Sl Int) B_ hB _ ((slin_blk (H.ro_at 1 rfl) ⟨[], rfl⟩ eByteN (Nat.le_of_ble_eq_true rfl))) ((slin_blk (H.ro_at 0 rfl) ⟨[], rfl⟩ eIntN (Nat.le_of_ble_eq_true rfl))) (H.ro_at 10 rfl))) ?_
    simp only [N]
    refine wxl_take 30 rfl rfl (by kernel_rfl) (by kernel_rfl) (by kernel_rfl) (by kernel_rfl) (by kernel_rfl) (xy_run rfl (fun w H => rp_pickT rfl rfl (u := .bool (playsF ([(0 : UInt8), (1 : UInt8)] : List UInt8) (1 : UInt8) (1 : UInt8) ([(0 : Int), (1 : Int), (0 : Int), (1 : Int)] : List Int) B_)) rfl)) ?_
    simp only [N]
    refine wxl_take 31 rfl rfl (by kernel_rfl) (by kernel_rfl) (by kernel_rfl) (by kernel_rfl) (by kernel_rfl) (xy_run rfl (fun w H => rp_move rfl (v := .bool (playsF ([(0 : UInt8), (1 : UInt8)] : List UInt8) (1 : UInt8) (1 : UInt8) ([(0 : Int), (1 : Int), (0 : Int), (1 : Int)] : List Int) B_)) rfl)) ?_
    simp only [N]
    have hg21 : (playsF ([(0 : UInt8), (1 : UInt8)] : List UInt8) (1 : UInt8) (1 : UInt8) ([(0 : Int), (1 : Int), (0 : Int), (1 : Int)] : List Int) B_) = true := by rw [hB]; kernel_rfl
    simp only [hg21, Bool.true_and, Bool.and_true]
    refine wxl_each2 32 33 (by kernel_rfl) ?_ ?_
    ·
     refine xs_allocQ rfl rfl rfl (xa_buildSlice rfl Tryz.underlying23 sz5 zv5 (by decide) (by decide) (vs := [(0, bv (1 : UInt8)), (1, bv (1 : UInt8))]) rfl (cs := #[bv (1 : UInt8), bv (1 : UInt8)]) (by kernel_rfl)) ?_
     intro bd56
     simp only [N, M, Value.cells]
     refine wxl_allocF 33 rfl rfl (by kernel_rfl) rfl (xa_buildSlice rfl Tryz.underlying44 sz3 zv3 (by decide) (by decide) (vs := [(0, iv (1 : Int)), (1, iv (1 : Int)), (2, iv (0 : Int)), (3, iv (0 : Int))]) rfl (cs := #[iv (1 : Int), iv (1 : Int), iv (0 : Int), iv (0 : Int)]) (by kernel_rfl)) ?_
     intro bd57
     simp only [N, M, Value.cells]
     refine wxl_take 34 rfl rfl (by kernel_rfl) (by kernel_rfl) (by kernel_rfl) (by kernel_rfl) (by kernel_rfl) (xy_call rfl (rc_go Tryz.func44 (by kernel_rfl) rfl) (fun w H => playsF_spec (⟨some ⟨bd56, 0, none⟩, 2, [(1 : UInt8), (1 : UInt8)]⟩ : Sl UInt8) (1 : UInt8) (0 : UInt8) (⟨some ⟨bd57, 0, none⟩, 4, [(1 : Int), (1 : Int), (0 : Int), (0 : Int)]⟩ : Sl Int) B_ hB _ ((slin_blk (H.ro_at 1 rfl) ⟨[], rfl⟩ eByteN (Nat.le_of_ble_eq_true rfl))) ((slin_blk (H.ro_at 0 rfl) ⟨[], rfl⟩ eIntN (Nat.le_of_ble_eq_true rfl))) (H.ro_at 12 rfl))) ?_
     simp only [N]
     refine wxl_take 35 rfl rfl (by kernel_rfl) (by kernel_rfl) (by kernel_rfl) (by kernel_rfl) (by kernel_rfl) (xy_run rfl (fun w H => rp_pickT rfl rfl (u := .bool (playsF ([(1 : UInt8), (1 : UInt8)] : List UInt8) (1 : UInt8) (0 : UInt8) ([(1 : Int), (1 : Int), (0 : Int), (0 : Int)] : List Int) B_)) rfl)) ?_
     simp only [N]
     refine wxl_take 36 rfl rfl (by kernel_rfl) (by kernel_rfl) (by kernel_rfl) (by kernel_rfl) (by kernel_rfl) (xy_run rfl (fun w H => rp_assign rfl (v := .bool (playsF ([(1 : UInt8), (1 : UInt8)] : List UInt8) (1 : UInt8) (0 : UInt8) ([(1 : Int), (1 : Int), (0 : Int), (0 : Int)] : List Int) B_)) rfl)) ?_
     simp only [N]
     refine wpX_done (by kernel_rfl) ?_ _
     clear H; intro w31 H; simp only [List.cons_append, List.nil_append] at H
     refine wp_ret ?_
     try simp only [Exit.inBlock, Exit.then, cutP]
     refine bodyPost_ret (results1 rfl (rv_tmp rfl)) rfl ?_
     have hF : (awakeF B_) = (playsF ([(1 : UInt8), (1 : UInt8)] : List UInt8) (1 : UInt8) (0 : UInt8) ([(1 : Int), (1 : Int), (0 : Int), (0 : Int)] : List Int) B_) := hFa
     rw [hF]
     exact ⟨rfl, H.ext⟩
    ·
     refine xs_allocQ rfl rfl rfl (xa_buildSlice rfl Tryz.underlying44 sz3 zv3 (by decide) (by decide) (vs := [(0, iv (1 : Int)), (1, iv (1 : Int)), (2, iv (0 : Int)), (3, iv (0 : Int))]) rfl (cs := #[iv (1 : Int), iv (1 : Int), iv (0 : Int), iv (0 : Int)]) (by kernel_rfl)) ?_
     intro bd57
     simp only [N, M, Value.cells]
     refine wxl_allocF 32 rfl rfl (by kernel_rfl) rfl (xa_buildSlice rfl Tryz.underlying23 sz5 zv5 (by decide) (by decide) (vs := [(0, bv (1 : UInt8)), (1, bv (1 : UInt8))]) rfl (cs := #[bv (1 : UInt8), bv (1 : UInt8)]) (by kernel_rfl)) ?_
     intro bd56
     simp only [N, M, Value.cells]
     refine wxl_take 34 rfl rfl (by kernel_rfl) (by kernel_rfl) (by kernel_rfl) (by kernel_rfl) (by kernel_rfl) (xy_call rfl (rc_go Tryz.func44 (by kernel_rfl) rfl) (fun w H => playsF_spec (⟨some ⟨bd56, 0, none⟩, 2, [(1 : UInt8), (1 : UInt8)]⟩ : Sl UInt8) (1 : UInt8) (0 : UInt8) (⟨some ⟨bd57, 0, none⟩, 4, [(1 : Int), (1 : Int), (0 : Int), (0 : Int)]⟩ : Sl Int) B_ hB _ ((slin_blk (H.ro_at 0 rfl) ⟨[], rfl⟩ eByteN (Nat.le_of_ble_eq_true rfl))) ((slin_blk (H.ro_at 1 rfl) ⟨[], rfl⟩ eIntN (Nat.le_of_ble_eq_true rfl))) (H.ro_at 12 rfl))) ?_
     simp only [N]
     refine wxl_take 35 rfl rfl (by kernel_rfl) (by kernel_rfl) (by kernel_rfl) (by kernel_rfl) (by kernel_rfl) (xy_run rfl (fun w H => rp_pickT rfl rfl (u := .bool (playsF ([(1 : UInt8), (1 : UInt8)] : List UInt8) (1 : UInt8) (0 : UInt8) ([(1 : Int), (1 : Int), (0 : Int), (0 : Int)] : List Int) B_)) rfl)) ?_
     simp only [N]
     refine wxl_take 36 rfl rfl (by kernel_rfl) (by kernel_rfl) (by kernel_rfl) (by kernel_rfl) (by kernel_rfl) (xy_run rfl (fun w H => rp_assign rfl (v := .bool (playsF ([(1 : UInt8), (1 : UInt8)] : List UInt8) (1 : UInt8) (0 : UInt8) ([(1 : Int), (1 : Int), (0 : Int), (0 : Int)] : List Int) B_)) rfl)) ?_
     simp only [N]
     refine wpX_done (by kernel_rfl) ?_ _
     clear H; intro w32 H; simp only [List.cons_append, List.nil_append] at H
     refine wp_ret ?_
     try simp only [Exit.inBlock, Exit.then, cutP]
     refine bodyPost_ret (results1 rfl (rv_tmp rfl)) rfl ?_
     have hF : (awakeF B_) = (playsF ([(1 : UInt8), (1 : UInt8)] : List UInt8) (1 : UInt8) (0 : UInt8) ([(1 : Int), (1 : Int), (0 : Int), (0 : Int)] : List Int) B_) := hFa
     rw [hF]
     exact ⟨rfl, H.ext⟩
   ·
    refine xs_allocQ rfl rfl rfl (xa_buildSlice rfl Tryz.underlying44 sz3 zv3 (by decide) (by decide) (vs := [(0, iv (0 : Int)), (1, iv (1 : Int)), (2, iv (0 : Int)), (3, iv (1 : Int))]) rfl (cs := #[iv (0 : Int), iv (1 : Int), iv (0 : Int), iv (1 : Int)]) (by kernel_rfl)) ?_
    intro bd52
    simp only [N, M, Value.cells]
    refine wxl_allocF 27 rfl rfl (by kernel_rfl) rfl (xa_buildSlice rfl Tryz.underlying23 sz5 zv5 (by decide) (by decide) (vs := [(0, bv (0 : UInt8)), (1, bv (1 : UInt8))]) rfl (cs := #[bv (0 : UInt8), bv (1 : UInt8)]) (by kernel_rfl)) ?_
    intro bd51
    simp only [N, M, Value.cells]
    refine wxl_take 29 rfl rfl (by kernel_rfl) (by kernel_rfl) (by kernel_rfl) (by kernel_rfl) (by kernel_rfl) (xy_call rfl (rc_go Tryz.func44 (by kernel_rfl) rfl) (fun w H => playsF_spec (⟨some ⟨bd51, 0, none⟩, 2, [(0 : UInt8), (1 : UInt8)]⟩ : Sl UInt8) (1 : UInt8) (1 : UInt8) (⟨some ⟨bd52, 0, none⟩, 4, [(0 : Int), (1 : Int), (0 : Int), (1 : Int)]⟩ : Sl Int) B_ hB _ ((slin_blk (H.ro_at 0 rfl) ⟨[], rfl⟩ eByteN (Nat.le_of_ble_eq_true rfl))) ((slin_blk (H.ro_at 1 rfl) ⟨[], rfl⟩ eIntN (Nat.le_of_ble_eq_true rfl))) (H.ro_at 10 rfl))) ?_
    simp only [N]
    refine wxl_take 30 rfl rfl (by kernel_rfl) (by kernel_rfl) (by kernel_rfl) (by kernel_rfl) (by kernel_rfl) (xy_run rfl (fun w H => rp_pickT rfl rfl (u := .bool (playsF ([(0 : UInt8), (1 : UInt8)] : List UInt8) (1 : UInt8) (1 : UInt8) ([(0 : Int), (1 : Int), (0 : Int), (1 : Int)] : List Int) B_)) rfl)) ?_
    simp only [N]
    refine wxl_take 31 rfl rfl (by kernel_rfl) (by kernel_rfl) (by kernel_rfl) (by kernel_rfl) (by kernel_rfl) (xy_run rfl (fun w H => rp_move rfl (v := .bool (playsF ([(0 : UInt8), (1 : UInt8)] : List UInt8) (1 : UInt8) (1 : UInt8) ([(0 : Int), (1 : Int), (0 : Int), (1 : Int)] : List Int) B_)) rfl)) ?_
    simp only [N]
    have hg22 : (playsF ([(0 : UInt8), (1 : UInt8)] : List UInt8) (1 : UInt8) (1 : UInt8) ([(0 : Int), (1 : Int), (0 : Int), (1 : Int)] : List Int) B_) = true := by rw [hB]; kernel_rfl
    simp only [hg22, Bool.true_and, Bool.and_true]
    refine wxl_each2 32 33 (by kernel_rfl) ?_ ?_
    ·
     refine xs_allocQ rfl rfl rfl (xa_buildSlice rfl Tryz.underlying23 sz5 zv5 (by decide) (by decide) (vs := [(0, bv (1 : UInt8)), (1, bv (1 : UInt8))]) rfl (cs := #[bv (1 : UInt8), bv (1 : UInt8)]) (by kernel_rfl)) ?_
     intro bd56
     simp only [N, M, Value.cells]
     refine wxl_allocF 33 rfl rfl (by kernel_rfl) rfl (xa_buildSlice rfl Tryz.underlying44 sz3 zv3 (by decide) (by decide) (vs := [(0, iv (1 : Int)), (1, iv (1 : Int)), (2, iv (0 : Int)), (3, iv (0 : Int))]) rfl (cs := #[iv (1 : Int), iv (1 : Int), iv (0 : Int), iv (0 : Int)]) (by kernel_rfl)) ?_
     intro bd57
     simp only [N, M, Value.cells]
     refine wxl_take 34 rfl rfl (by kernel_rfl) (by kernel_rfl) (by kernel_rfl) (by kernel_rfl) (by kernel_rfl) (xy_call rfl (rc_go Tryz.func44 (by kernel_rfl) rfl) (fun w H => playsF_spec (⟨some ⟨bd56, 0, none⟩, 2, [(1 : UInt8), (1 : UInt8)]⟩ : Sl UInt8) (1 : UInt8) (0 : UInt8) (⟨some ⟨bd57, 0, none⟩, 4, [(1 : Int), (1 : Int), (0 : Int), (0 : Int)]⟩ : Sl Int) B_ hB _ ((slin_blk (H.ro_at 1 rfl) ⟨[], rfl⟩ eByteN (Nat.le_of_ble_eq_true rfl))) ((slin_blk (H.ro_at 0 rfl) ⟨[], rfl⟩ eIntN (Nat.le_of_ble_eq_true rfl))) (H.ro_at 12 rfl))) ?_
     simp only [N]
     refine wxl_take 35 rfl rfl (by kernel_rfl) (by kernel_rfl) (by kernel_rfl) (by kernel_rfl) (by kernel_rfl) (xy_run rfl (fun w H => rp_pickT rfl rfl (u := .bool (playsF ([(1 : UInt8), (1 : UInt8)] : List UInt8) (1 : UInt8) (0 : UInt8) ([(1 : Int), (1 : Int), (0 : Int), (0 : Int)] : List Int) B_)) rfl)) ?_
     simp only [N]
     refine wxl_take 36 rfl rfl (by kernel_rfl) (by kernel_rfl) (by kernel_rfl) (by kernel_rfl) (by kernel_rfl) (xy_run rfl (fun w H => rp_assign rfl (v := .bool (playsF ([(1 : UInt8), (1 : UInt8)] : List UInt8) (1 : UInt8) (0 : UInt8) ([(1 : Int), (1 : Int), (0 : Int), (0 : Int)] : List Int) B_)) rfl)) ?_
     simp only [N]
     refine wpX_done (by kernel_rfl) ?_ _
     clear H; intro w33 H; simp only [List.cons_append, List.nil_append] at H
     refine wp_ret ?_
     try simp only [Exit.inBlock, Exit.then, cutP]
     refine bodyPost_ret (results1 rfl (rv_tmp rfl)) rfl ?_
     have hF : (awakeF B_) = (playsF ([(1 : UInt8), (1 : UInt8)] : List UInt8) (1 : UInt8) (0 : UInt8) ([(1 : Int), (1 : Int), (0 : Int), (0 : Int)] : List Int) B_) := hFa
     rw [hF]
     exact ⟨rfl, H.ext⟩
    ·
     refine xs_allocQ rfl rfl rfl (xa_buildSlice rfl Tryz.underlying44 sz3 zv3 (by decide) (by decide) (vs := [(0, iv (1 : Int)), (1, iv (1 : Int)), (2, iv (0 : Int)), (3, iv (0 : Int))]) rfl (cs := #[iv (1 : Int), iv (1 : Int), iv (0 : Int), iv (0 : Int)]) (by kernel_rfl)) ?_
     intro bd57
     simp only [N, M, Value.cells]
     refine wxl_allocF 32 rfl rfl (by kernel_rfl) rfl (xa_buildSlice rfl Tryz.underlying23 sz5 zv5 (by decide) (by decide) (vs := [(0, bv (1 : UInt8)), (1, bv (1 : UInt8))]) rfl (cs := #[bv (1 : UInt8), bv (1 : UInt8)]) (by kernel_rfl)) ?_
     intro bd56
     simp only [N, M, Value.cells]
     refine wxl_take 34 rfl rfl (by kernel_rfl) (by kernel_rfl) (by kernel_rfl) (by kernel_rfl) (by kernel_rfl) (xy_call rfl (rc_go Tryz.func44 (by kernel_rfl) rfl) (fun w H => playsF_spec (⟨some ⟨bd56, 0, none⟩, 2, [(1 : UInt8), (1 : UInt8)]⟩ : Sl UInt8) (1 : UInt8) (0 : UInt8) (⟨some ⟨bd57, 0, none⟩, 4, [(1 : Int), (1 : Int), (0 : Int), (0 : Int)]⟩ : Sl Int) B_ hB _ ((slin_blk (H.ro_at 0 rfl) ⟨[], rfl⟩ eByteN (Nat.le_of_ble_eq_true rfl))) ((slin_blk (H.ro_at 1 rfl) ⟨[], rfl⟩ eIntN (Nat.le_of_ble_eq_true rfl))) (H.ro_at 12 rfl))) ?_
     simp only [N]
     refine wxl_take 35 rfl rfl (by kernel_rfl) (by kernel_rfl) (by kernel_rfl) (by kernel_rfl) (by kernel_rfl) (xy_run rfl (fun w H => rp_pickT rfl rfl (u := .bool (playsF ([(1 : UInt8), (1 : UInt8)] : List UInt8) (1 : UInt8) (0 : UInt8) ([(1 : Int), (1 : Int), (0 : Int), (0 : Int)] : List Int) B_)) rfl)) ?_
     simp only [N]
     refine wxl_take 36 rfl rfl (by kernel_rfl) (by kernel_rfl) (by kernel_rfl) (by kernel_rfl) (by kernel_rfl) (xy_run rfl (fun w H => rp_assign rfl (v := .bool (playsF ([(1 : UInt8), (1 : UInt8)] : List UInt8) (1 : UInt8) (0 : UInt8) ([(1 : Int), (1 : Int), (0 : Int), (0 : Int)] : List Int) B_)) rfl)) ?_
     simp only [N]
     refine wpX_done (by kernel_rfl) ?_ _
     clear H; intro w34 H; simp only [List.cons_append, List.nil_append] at H
     refine wp_ret ?_
     try simp only [Exit.inBlock, Exit.then, cutP]
     refine bodyPost_ret (results1 rfl (rv_tmp rfl)) rfl ?_
     have hF : (awakeF B_) = (playsF ([(1 : UInt8), (1 : UInt8)] : List UInt8) (1 : UInt8) (0 : UInt8) ([(1 : Int), (1 : Int), (0 : Int), (0 : Int)] : List Int) B_) := hFa
     rw [hF]
     exact ⟨rfl, H.ext⟩

theorem awake_true : awakeF (bufF_q1 0 0 0 0 0) = true := by kernel_rfl
theorem awake_spec (w : World) (hg : Glob w) : Calls Tryz.prog 13 #[] w fun e w' => e = .returned (.bool true) ∧ Ext w w' := by
  have h := awakeF_spec _ rfl w hg
  rw [awake_true] at h
  exact h

end Go.Proofs.YtpnaooajmdildaaGreatDoor
