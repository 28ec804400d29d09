/- Walks, printed by a program of this repository (wip/tool). -/
import Derived.Test.YtimonjemjhecoaaGreatDoorAt1
namespace Go.Proofs.YtimonjemjhecoaaGreatDoor
open Go.RowKit
open Go
attribute [local irreducible] wpList wpQuiet wpX Code.wp
set_option maxHeartbeats 1000000
set_option maxRecDepth 100000
set_option linter.unusedSimpArgs false
set_option linter.unusedVariables false

theorem turn1_spec (b0 T0 : Nat) (x : UInt8) (w : World) (h0 : w.heap[b0]? = some (.cells #[bv x] T0 (0, 0))) :
    Calls Tryz.prog 84 #[.pointer (some ⟨b0, 0, none⟩)] w fun e w' => e = .returned (bv x) ∧ Ext w w' := by
 have H := Own.start_blks w [(b0, .cells #[bv x] T0 (0, 0))] (by simp [h0])
 go_enter Tryz.func84, Tryz.ntmps84
 refine wsr ?_
 refine wasg (bv (0 : UInt8)) ?_; simp only [N]
 refine wnr ?_
 refine wr (rp_load1ro H 0 rfl rfl rfl Tryz.underlying5 rfl (v := bv x) rfl) ?_; simp only [N]
 refine wasg (bv x) ?_; simp only [N]
 refine wpList_nil ?_
 refine wp_ret ?_
 try simp only [Exit.inBlock, Exit.then]
 refine bodyPost_ret (results1 rfl (rv_tmp rfl)) rfl ?_
 exact ⟨rfl, H.ext⟩

theorem turn2_spec (b0 T0 : Nat) (x : UInt8) (w : World) (h0 : w.heap[b0]? = some (.cells #[bv x] T0 (0, 0))) :
    Calls Tryz.prog 85 #[.pointer (some ⟨b0, 0, none⟩)] w fun e w' => e = .returned (bv x) ∧ Ext w w' := by
 have H := Own.start_blks w [(b0, .cells #[bv x] T0 (0, 0))] (by simp [h0])
 go_enter Tryz.func85, Tryz.ntmps85
 refine wsr ?_
 refine wasg (bv (0 : UInt8)) ?_; simp only [N]
 refine wnr ?_
 refine wr (rp_load1ro H 0 rfl rfl rfl Tryz.underlying5 rfl (v := bv x) rfl) ?_; simp only [N]
 refine wasg (bv x) ?_; simp only [N]
 refine wpList_nil ?_
 refine wp_ret ?_
 try simp only [Exit.inBlock, Exit.then]
 refine bodyPost_ret (results1 rfl (rv_tmp rfl)) rfl ?_
 exact ⟨rfl, H.ext⟩

theorem turn3_spec (b0 T0 : Nat) (x : UInt8) (w : World) (h0 : w.heap[b0]? = some (.cells #[bv x] T0 (0, 0))) :
    Calls Tryz.prog 86 #[.pointer (some ⟨b0, 0, none⟩)] w fun e w' => e = .returned (bv x) ∧ Ext w w' := by
 have H := Own.start_blks w [(b0, .cells #[bv x] T0 (0, 0))] (by simp [h0])
 go_enter Tryz.func86, Tryz.ntmps86
 refine wsr ?_
 refine wasg (bv (0 : UInt8)) ?_; simp only [N]
 refine wnr ?_
 refine wr (rp_load1ro H 0 rfl rfl rfl Tryz.underlying5 rfl (v := bv x) rfl) ?_; simp only [N]
 refine wasg (bv x) ?_; simp only [N]
 refine wpList_nil ?_
 refine wp_ret ?_
 try simp only [Exit.inBlock, Exit.then]
 refine bodyPost_ret (results1 rfl (rv_tmp rfl)) rfl ?_
 exact ⟨rfl, H.ext⟩

theorem turn4_spec (b0 T0 : Nat) (x : UInt8) (b1 T1 : Nat) (y : UInt8) (w : World) (h0 : w.heap[b0]? = some (.cells #[bv x] T0 (0, 0))) (h1 : w.heap[b1]? = some (.cells #[bv y] T1 (0, 0))) :
    Calls Tryz.prog 87 #[.pointer (some ⟨b0, 0, none⟩), .pointer (some ⟨b1, 0, none⟩)] w fun e w' => e = .returned (bv (x + y)) ∧ Ext w w' := by
 have H := Own.start_blks w [(b0, .cells #[bv x] T0 (0, 0)), (b1, .cells #[bv y] T1 (0, 0))] (by simp [h0, h1])
 go_enter Tryz.func87, Tryz.ntmps87
 refine wsr ?_
 refine wasg (bv (0 : UInt8)) ?_; simp only [N]
 refine wnr ?_
 refine wr (rp_load1ro H 0 rfl rfl rfl Tryz.underlying5 rfl (v := bv x) rfl) ?_; simp only [N]
 refine wr (rp_load1ro H 1 rfl rfl rfl Tryz.underlying5 rfl (v := bv y) rfl) ?_; simp only [N]
 refine wr (rp_u8_add rfl x y rfl rfl) ?_; simp only [N]
 refine wasg (bv (x + y)) ?_; simp only [N]
 refine wpList_nil ?_
 refine wp_ret ?_
 try simp only [Exit.inBlock, Exit.then]
 refine bodyPost_ret (results1 rfl (rv_tmp rfl)) rfl ?_
 exact ⟨rfl, H.ext⟩

theorem turn5_spec (b0 T0 : Nat) (x : UInt8) (b1 T1 : Nat) (y : UInt8) (b2 T2 : Nat) (z : UInt8) (w : World) (h0 : w.heap[b0]? = some (.cells #[bv x] T0 (0, 0))) (h1 : w.heap[b1]? = some (.cells #[bv y] T1 (0, 0))) (h2 : w.heap[b2]? = some (.cells #[bv z] T2 (0, 0))) :
    Calls Tryz.prog 88 #[.pointer (some ⟨b0, 0, none⟩), .pointer (some ⟨b1, 0, none⟩), .pointer (some ⟨b2, 0, none⟩)] w fun e w' => e = .returned (bv (if x == y then z else x)) ∧ Ext w w' := by
 have H := Own.start_blks w [(b0, .cells #[bv x] T0 (0, 0)), (b1, .cells #[bv y] T1 (0, 0)), (b2, .cells #[bv z] T2 (0, 0))] (by simp [h0, h1, h2])
 go_enter Tryz.func88, Tryz.ntmps88
 refine wsr ?_
 refine wasg (bv (0 : UInt8)) ?_; simp only [N]
 refine wpList_nil ?_
 refine wp_seq ?_; refine wsr ?_
 refine wr (rp_load1ro H 0 rfl rfl rfl Tryz.underlying5 rfl (v := bv x) rfl) ?_; simp only [N]
 refine wr (rp_load1ro H 1 rfl rfl rfl Tryz.underlying5 rfl (v := bv y) rfl) ?_; simp only [N]
 refine wr (rp_u8_eql rfl x y rfl rfl) ?_; simp only [N]
 refine wpList_nil ?_
 refine wp_cond_split rfl (fun hc1 => ?_) (fun hc1 => ?_)
 · --T 1
  have hc1N : x.toNat = y.toNat := u8_eq hc1
  refine wsr ?_
  refine wr (rp_load1ro H 2 rfl rfl rfl Tryz.underlying5 rfl (v := bv z) rfl) ?_; simp only [N]
  refine wasg (bv z) ?_; simp only [N]
  refine wpList_nil ?_
  refine wp_ret ?_
  try simp only [Exit.inBlock, Exit.then]
  refine bodyPost_ret (results1 rfl (rv_tmp rfl)) rfl ?_
  exact ⟨by simp_all, H.ext⟩
 · --F 1
  have hc1N : x.toNat ≠ y.toNat := u8_ne hc1
  refine wp_skip ?_
  refine wsr ?_
  refine wr (rp_load1ro H 0 rfl rfl rfl Tryz.underlying5 rfl (v := bv x) rfl) ?_; simp only [N]
  refine wasg (bv x) ?_; simp only [N]
  refine wpList_nil ?_
  refine wp_ret ?_
  try simp only [Exit.inBlock, Exit.then]
  refine bodyPost_ret (results1 rfl (rv_tmp rfl)) rfl ?_
  exact ⟨by simp_all, H.ext⟩

def turnF (i : Ins) (regs : List UInt8) (had : UInt8) : UInt8 :=
  if i.op == 1 then had else if i.op == 2 then worth i.a regs else if i.op == 4 then worth i.a regs else if i.op == 5 then had + worth i.a regs else if had == worth i.a regs then worth i.b regs else had
def memOp (op : UInt8) : Prop := op = 1 ∨ op = 2 ∨ op = 4 ∨ op = 5 ∨ op = 6

theorem turn_spec (i : Ins) (regs : List UInt8) (had : UInt8) (hl : regs.length = 8) (hop : memOp i.op) (w : World) :
    Calls Tryz.prog 58 #[.agg i.cells.toArray, .agg (enc regs).toArray, bv had] w fun e w' => e = .returned (bv (turnF i regs had)) ∧ Ext w w' := by
 have H := Own.start w
 go_enter Tryz.func58, Tryz.ntmps58
 refine wsr ?_
 refine wl_box H rfl rfl (v := .agg (i.cells).toArray) rfl ?_
 clear H; intro b1 w1 hnb1 H; dsimp only [Value.cells] at H
 simp only [N]
 refine wl_box H rfl rfl (v := .agg (enc regs).toArray) rfl ?_
 clear H; intro b2 w2 hnb2 H; dsimp only [Value.cells] at H
 simp only [N]
 refine wl_box H rfl rfl (v := bv had) rfl ?_
 clear H; intro b3 w3 hnb3 H; dsimp only [Value.cells] at H
 simp only [N]
 refine wasg (bv (0 : UInt8)) ?_; simp only [N]
 refine wpList_nil ?_
 refine wp_seq ?_; refine wp_cutI (fun a' w' => ∃ n1 n2 : Nat, a' = ⟨#[.agg (i.cells).toArray, .agg (enc regs).toArray, bv had, .pointer (some ⟨b1, 0, none⟩), .pointer (some ⟨b2, 0, none⟩), .pointer (some ⟨b3, 0, none⟩), bv (0 : UInt8), .pointer (some ⟨n1, 0, none⟩), .pointer (some ⟨n2, 0, none⟩), uU, .pointer (some ⟨b1, 3, none⟩), .agg (i.a.cells).toArray, .agg (enc regs).toArray, bv (worth i.a regs), .pointer (some ⟨b1, 5, none⟩), .agg (i.b.cells).toArray, .agg (enc regs).toArray, bv (worth i.b regs), uU, uU, uU, uU, uU, uU, uU, uU, uU, uU, uU, uU], []⟩ ∧ Own w [] [] [.blk n1 (.cells #[bv (worth i.a regs)] 5 (0, 0)), .blk n2 (.cells #[bv (worth i.b regs)] 5 (0, 0)), .blk b3 (.cells #[bv had] 5 (0, 0)), .blk b2 (.cells (enc regs).toArray 30 (0, 0)), .blk b1 (.cells (i.cells).toArray 58 (0, 0))] w') ?_ ?_
 ·
  refine wp_region_mix 12 H (by kernel_rfl) ?_
  refine wxl_tk 0 rfl (xy_run rfl (fun w H => rp_fieldAddr rfl Tryz.underlying58 rfl 3 rfl sz56 rfl 3 rfl)) ?_
  simp only [N, M, Value.cells]
  refine wxl_tk 1 rfl (xy_run rfl (fun w H => rp_loadN H 2 rfl rfl rfl Tryz.underlying56 rfl sz56 (Nat.le_of_ble_eq_true rfl) (cs' := i.a.cells) rfl)) ?_
  simp only [N, M, Value.cells]
  refine wxl_tk 2 rfl (xy_run rfl (fun w H => rp_loadWe H 1 rfl rfl rfl Tryz.underlying30 rfl (by first | exact sz30 | (rw [sz30]; congr 1; first | omega | simp [LN, enc_length, putAt_length, localF_length] <;> omega)) rfl)) ?_
  simp only [N, M, Value.cells]
  refine wxl_tk 3 rfl (xy_call rfl (rc_go Tryz.func16 (by kernel_rfl) rfl) (fun w H => worth_spec i.a regs (by first | omega | simp [LN, enc_length, putAt_length, localF_length] <;> omega) _)) ?_
  simp only [N, M, Value.cells]
  refine wxl_tk 4 rfl (xy_run rfl (fun w H => rp_fieldAddr rfl Tryz.underlying58 rfl 5 rfl sz56 rfl 5 rfl)) ?_
  simp only [N, M, Value.cells]
  refine wxl_tk 5 rfl (xy_run rfl (fun w H => rp_loadN H 2 rfl rfl rfl Tryz.underlying56 rfl sz56 (Nat.le_of_ble_eq_true rfl) (cs' := i.b.cells) rfl)) ?_
  simp only [N, M, Value.cells]
  refine wxl_tk 6 rfl (xy_run rfl (fun w H => rp_loadWe H 1 rfl rfl rfl Tryz.underlying30 rfl (by first | exact sz30 | (rw [sz30]; congr 1; first | omega | simp [LN, enc_length, putAt_length, localF_length] <;> omega)) rfl)) ?_
  simp only [N, M, Value.cells]
  refine wxl_tk 7 rfl (xy_call rfl (rc_go Tryz.func16 (by kernel_rfl) rfl) (fun w H => worth_spec i.b regs (by first | omega | simp [LN, enc_length, putAt_length, localF_length] <;> omega) _)) ?_
  simp only [N, M, Value.cells]
  refine wxl_two 8 9 rfl rfl rfl rfl (by kernel_rfl) rfl rfl (xa_alloc rfl zv5) (xa_alloc rfl zv5) ?_ ?_
  ·
   intro b4
   simp only [N, M, Value.cells]
   refine wxl_alloc 9 rfl rfl (by kernel_rfl) rfl (xa_alloc rfl zv5) ?_
   intro b5
   simp only [N, M, Value.cells]
   refine wxl_store 10 1 rfl rfl (by kernel_rfl) rfl rfl (xs_one rfl rfl (v := bv (worth i.a regs)) rfl rfl sz5) ?_
   simp only [N, M, Value.cells]
   refine wxl_store 11 0 rfl rfl (by kernel_rfl) rfl rfl (xs_one rfl rfl (v := bv (worth i.b regs)) rfl rfl sz5) ?_
   simp only [N, M, Value.cells]
   refine wpX_done (by kernel_rfl) ?_ _
   clear H; intro w4 H; simp only [List.cons_append, List.nil_append] at H
   exact ⟨rfl, b4, b5, rfl, H.swap⟩
  ·
   intro b6
   simp only [N, M, Value.cells]
   refine wxl_alloc 8 rfl rfl (by kernel_rfl) rfl (xa_alloc rfl zv5) ?_
   intro b7
   simp only [N, M, Value.cells]
   refine wxl_store 10 0 rfl rfl (by kernel_rfl) rfl rfl (xs_one rfl rfl (v := bv (worth i.a regs)) rfl rfl sz5) ?_
   simp only [N, M, Value.cells]
   refine wxl_store 11 1 rfl rfl (by kernel_rfl) rfl rfl (xs_one rfl rfl (v := bv (worth i.b regs)) rfl rfl sz5) ?_
   simp only [N, M, Value.cells]
   refine wpX_done (by kernel_rfl) ?_ _
   clear H; intro w5 H; simp only [List.cons_append, List.nil_append] at H
   exact ⟨rfl, b7, b6, rfl, H⟩
 clear H
 rintro _ w6 ⟨b8, b9, rfl, H⟩
 refine wsr ?_
 refine wl_makeMap H rfl rfl ?_
 clear H; intro b10 w7 _ H
 simp only [N]
 refine wr (rp_makeFuncL rfl (fs := []) (cs := [.pointer (some ⟨b3, 0, none⟩)]) rfl rfl) ?_; simp only [N]
 refine wl_insert H 0 rfl rfl Tryz.underlying145 Tryz.underlying5 rfl rfl (1 : UInt8) rfl (v := .func (.func 84) #[] #[.pointer (some ⟨b3, 0, none⟩)]) rfl rfl ?_
 clear H; intro w8 H; simp only [M] at H
 simp only [N]
 refine wr (rp_makeFuncL rfl (fs := []) (cs := [.pointer (some ⟨b8, 0, none⟩)]) rfl rfl) ?_; simp only [N]
 refine wl_insert H 0 rfl rfl Tryz.underlying145 Tryz.underlying5 rfl rfl (2 : UInt8) rfl (v := .func (.func 85) #[] #[.pointer (some ⟨b8, 0, none⟩)]) rfl rfl ?_
 clear H; intro w9 H; simp only [M] at H
 simp only [N]
 refine wr (rp_makeFuncL rfl (fs := []) (cs := [.pointer (some ⟨b8, 0, none⟩)]) rfl rfl) ?_; simp only [N]
 refine wl_insert H 0 rfl rfl Tryz.underlying145 Tryz.underlying5 rfl rfl (4 : UInt8) rfl (v := .func (.func 86) #[] #[.pointer (some ⟨b8, 0, none⟩)]) rfl rfl ?_
 clear H; intro w10 H; simp only [M] at H
 simp only [N]
 refine wr (rp_makeFuncL rfl (fs := []) (cs := [.pointer (some ⟨b3, 0, none⟩), .pointer (some ⟨b8, 0, none⟩)]) rfl rfl) ?_; simp only [N]
 refine wl_insert H 0 rfl rfl Tryz.underlying145 Tryz.underlying5 rfl rfl (5 : UInt8) rfl (v := .func (.func 87) #[] #[.pointer (some ⟨b3, 0, none⟩), .pointer (some ⟨b8, 0, none⟩)]) rfl rfl ?_
 clear H; intro w11 H; simp only [M] at H
 simp only [N]
 refine wr (rp_makeFuncL rfl (fs := []) (cs := [.pointer (some ⟨b3, 0, none⟩), .pointer (some ⟨b8, 0, none⟩), .pointer (some ⟨b9, 0, none⟩)]) rfl rfl) ?_; simp only [N]
 refine wl_insert H 0 rfl rfl Tryz.underlying145 Tryz.underlying5 rfl rfl (6 : UInt8) rfl (v := .func (.func 88) #[] #[.pointer (some ⟨b3, 0, none⟩), .pointer (some ⟨b8, 0, none⟩), .pointer (some ⟨b9, 0, none⟩)]) rfl rfl ?_
 clear H; intro w12 H; simp only [M] at H
 simp only [N]
 refine wmv (.map (some b10)) ?_; simp only [N]
 refine wasg (.map (some b10)) ?_; simp only [N]
 refine wnr ?_
 refine wmv (.map (some b10)) ?_; simp only [N]
 refine wr (rp_fieldAddr rfl Tryz.underlying58 rfl 0 rfl sz5 rfl 0 rfl) ?_; simp only [N]
 refine wr (rp_load1 H 5 rfl rfl rfl Tryz.underlying5 rfl (v := bv i.op) rfl) ?_; simp only [N]
 rcases hop with hop | hop | hop | hop | hop
 · --op 1
  refine wr (rp_lookup8 H 0 rfl Tryz.underlying145 Tryz.underlying5 zv144 rfl rfl i.op rfl (v := .func (.func 84) #[] #[.pointer (some ⟨b3, 0, none⟩)]) (by rw [hop]; rfl)) ?_; simp only [N]
  refine wl_callE H rfl (rc_fn rfl Tryz.func84 (by kernel_rfl) rfl) (turn1_spec _ _ had  _ (H.blk (i := 3) rfl)) ?_
  clear H; intro w13 H
  simp only [N]
  refine wasg (bv had) ?_; simp only [N]
  refine wpList_nil ?_
  refine wp_ret ?_
  try simp only [Exit.inBlock, Exit.then]
  refine bodyPost_ret (results1 rfl (rv_tmp rfl)) rfl ?_
  exact ⟨by simp [turnF, hop], H.ext⟩
 · --op 2
  refine wr (rp_lookup8 H 0 rfl Tryz.underlying145 Tryz.underlying5 zv144 rfl rfl i.op rfl (v := .func (.func 85) #[] #[.pointer (some ⟨b8, 0, none⟩)]) (by rw [hop]; rfl)) ?_; simp only [N]
  refine wl_callE H rfl (rc_fn rfl Tryz.func85 (by kernel_rfl) rfl) (turn2_spec _ _ (worth i.a regs)  _ (H.blk (i := 1) rfl)) ?_
  clear H; intro w14 H
  simp only [N]
  refine wasg (bv (worth i.a regs)) ?_; simp only [N]
  refine wpList_nil ?_
  refine wp_ret ?_
  try simp only [Exit.inBlock, Exit.then]
  refine bodyPost_ret (results1 rfl (rv_tmp rfl)) rfl ?_
  exact ⟨by simp [turnF, hop], H.ext⟩
 · --op 4
  refine wr (rp_lookup8 H 0 rfl Tryz.underlying145 Tryz.underlying5 zv144 rfl rfl i.op rfl (v := .func (.func 86) #[] #[.pointer (some ⟨b8, 0, none⟩)]) (by rw [hop]; rfl)) ?_; simp only [N]
  refine wl_callE H rfl (rc_fn rfl Tryz.func86 (by kernel_rfl) rfl) (turn3_spec _ _ (worth i.a regs)  _ (H.blk (i := 1) rfl)) ?_
  clear H; intro w15 H
  simp only [N]
  refine wasg (bv (worth i.a regs)) ?_; simp only [N]
  refine wpList_nil ?_
  refine wp_ret ?_
  try simp only [Exit.inBlock, Exit.then]
  refine bodyPost_ret (results1 rfl (rv_tmp rfl)) rfl ?_
  exact ⟨by simp [turnF, hop], H.ext⟩
 · --op 5
  refine wr (rp_lookup8 H 0 rfl Tryz.underlying145 Tryz.underlying5 zv144 rfl rfl i.op rfl (v := .func (.func 87) #[] #[.pointer (some ⟨b3, 0, none⟩), .pointer (some ⟨b8, 0, none⟩)]) (by rw [hop]; rfl)) ?_; simp only [N]
  refine wl_callE H rfl (rc_fn rfl Tryz.func87 (by kernel_rfl) rfl) (turn4_spec _ _ had _ _ (worth i.a regs)  _ (H.blk (i := 3) rfl) (H.blk (i := 1) rfl)) ?_
  clear H; intro w16 H
  simp only [N]
  refine wasg (bv (had + (worth i.a regs))) ?_; simp only [N]
  refine wpList_nil ?_
  refine wp_ret ?_
  try simp only [Exit.inBlock, Exit.then]
  refine bodyPost_ret (results1 rfl (rv_tmp rfl)) rfl ?_
  exact ⟨by simp [turnF, hop], H.ext⟩
 · --op 6
  refine wr (rp_lookup8 H 0 rfl Tryz.underlying145 Tryz.underlying5 zv144 rfl rfl i.op rfl (v := .func (.func 88) #[] #[.pointer (some ⟨b3, 0, none⟩), .pointer (some ⟨b8, 0, none⟩), .pointer (some ⟨b9, 0, none⟩)]) (by rw [hop]; rfl)) ?_; simp only [N]
  refine wl_callE H rfl (rc_fn rfl Tryz.func88 (by kernel_rfl) rfl) (turn5_spec _ _ had _ _ (worth i.a regs) _ _ (worth i.b regs)  _ (H.blk (i := 3) rfl) (H.blk (i := 1) rfl) (H.blk (i := 2) rfl)) ?_
  clear H; intro w17 H
  simp only [N]
  refine wasg (bv (if had == (worth i.a regs) then (worth i.b regs) else had)) ?_; simp only [N]
  refine wpList_nil ?_
  refine wp_ret ?_
  try simp only [Exit.inBlock, Exit.then]
  refine bodyPost_ret (results1 rfl (rv_tmp rfl)) rfl ?_
  exact ⟨by simp [turnF, hop], H.ext⟩

end Go.Proofs.YtimonjemjhecoaaGreatDoor
