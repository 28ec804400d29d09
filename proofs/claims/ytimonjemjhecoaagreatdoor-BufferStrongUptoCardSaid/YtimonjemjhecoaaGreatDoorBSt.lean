/- Walks, printed by a program of this repository (wip/tool). -/
import Derived.Test.YtimonjemjhecoaaGreatDoorLB2
import Derived.Test.YtimonjemjhecoaaGreatDoorWaB
namespace Go.Proofs.YtimonjemjhecoaaGreatDoor
open Go.RowKit
open Go
attribute [local irreducible] wpList wpQuiet wpX Code.wp
set_option maxHeartbeats 1000000
set_option maxRecDepth 100000
set_option linter.unusedSimpArgs false
set_option linter.unusedVariables false

def strongF_d (xrd : Int) (rd : (List Pass) → Bool) : (List Pass) → Bool := fun s_ => match s_ with | drow1 => rd (drow1 ++ [(⟨(UInt8.ofNat (xrd % 256).toNat), false, (0 : UInt8)⟩ : Pass)])
def strongF_v124 (b57 : Nat) (rb : (Nat × (List UInt8)) → Bool) (v124 : (List UInt8) × Int) : Bool :=
  bif (v124.2 != (0 : Int)) then false else (rb ((b57 + 1), v124.1))
def strongF_f (p : Prog) (mach : UInt8) (picks : List UInt8) (b57 : Nat) (v96 : (List UInt8) × Int) (rb : (Nat × (List UInt8)) → Bool) (fb5_2 : UInt8) : Bool :=
  strongF_v124 b57 rb (bMoveF p (machineF mach) v96.1 (⟨(UInt8.ofNat (((playF p (picks.take (min picks.length 60))).2.1.getD b57 default) % 256).toNat), true, fb5_2⟩ : Pass))
def strongF_v96 (p : Prog) (mach : UInt8) (picks : List UInt8) (b57 : Nat) (v88 : Bool) (rb : (Nat × (List UInt8)) → Bool) (v96 : (List UInt8) × Int) : Bool :=
  bif (v96.2 != (0 : Int)) then false else (bif ((!v88) || ((machineF mach) == (1 : UInt8))) then (rb ((b57 + 1), v96.1)) else (bif ((machineF mach) == (3 : UInt8)) then (strongF_f p mach picks b57 v96 rb (v96.1.getD (42 + ((playF p (picks.take (min picks.length 60))).2.1.getD b57 default).toNat * 24) 0)) else (strongF_f p mach picks b57 v96 rb (0 : UInt8))))
def strongF_v88 (p : Prog) (mach : UInt8) (picks : List UInt8) (b57 : Nat) (bb2 : List UInt8) (rb : (Nat × (List UInt8)) → Bool) (v88 : Bool) : Bool :=
  strongF_v96 p mach picks b57 v88 rb (bMoveF p (machineF mach) bb2 (⟨(UInt8.ofNat (((playF p (picks.take (min picks.length 60))).2.1.getD b57 default) % 256).toNat), false, (0 : UInt8)⟩ : Pass))
def strongF_c (p : Prog) (mach : UInt8) (picks : List UInt8) (b57 : Nat) (bb2 : List UInt8) (rb : (Nat × (List UInt8)) → Bool) : Bool :=
  strongF_v88 p mach picks b57 bb2 rb (storeF p bb2 ((playF p (picks.take (min picks.length 60))).2.1.getD b57 default))
def strongF_v83 (p : Prog) (mach : UInt8) (picks : List UInt8) (b57 : Nat) (bb2 : List UInt8) (rb : (Nat × (List UInt8)) → Bool) (v83 : Bool) : Bool :=
  bif (!v83) then false else (strongF_c p mach picks b57 bb2 rb)
def strongF_dk (p : Prog) (mach : UInt8) (picks : List UInt8) (b57 : Nat) (bb2 : List UInt8) (rb : (Nat × (List UInt8)) → Bool) : (List Pass) → Bool := fun s_ => match s_ with | drow1 => strongF_v83 p mach picks b57 bb2 rb (passesEq (bMovesF p (machineF mach) bb2) drow1)
def strongF_b (p : Prog) (mach : UInt8) (picks : List UInt8) (xrb : Int) (rb : (Nat × (List UInt8)) → Bool) : (Nat × (List UInt8)) → Bool := fun s_ => match s_ with | (b57, bb2) => bif ((machineF mach) == (1 : UInt8)) then (loopL strongF_d (strongF_dk p mach picks b57 bb2 rb) (movesF p bb2) ([] : List Pass)) else (strongF_c p mach picks b57 bb2 rb)
def strongF_v133 (p : Prog) (picks : List UInt8) (bb2 : List UInt8) (v133 : Bool) : Bool :=
  ((v133 && (decide ((finalF bb2) = (playF p (picks.take (min picks.length 60))).1))) && true)
def strongF_bk (p : Prog) (mach : UInt8) (picks : List UInt8) : (Nat × (List UInt8)) → Bool := fun s_ => match s_ with | (b57, bb2) => strongF_v133 p picks bb2 (bOverF p (machineF mach) bb2)
def strongF_a (p : Prog) (mach : UInt8) (picks : List UInt8) : Bool :=
  bif (((playF p (picks.take (min picks.length 60))).2.2 != (0 : Int)) || ((startF p).2 != (0 : Int))) then ((((playF p (picks.take (min picks.length 60))).2.2 == (startF p).2) && ((rightF p) != (0 : Int))) && true) else (loopL (strongF_b p mach picks) (strongF_bk p mach picks) ((playF p (picks.take (min picks.length 60))).2.1) (0, (startF p).1))
def strongF (p : Prog) (mach : UInt8) (picks : List UInt8) : Bool :=
  strongF_a p mach picks


theorem strongF_spec (p : Prog) (mach : UInt8) (picks : Sl UInt8) (w : World) (hp : (IsProg p) w) (hpicks : (SlIn 1 eByte picks) w) (hg_ : Glob w) :
    Calls Tryz.prog 8 #[.agg p.cells.toArray, bv mach, picks.val] w fun e w' => e = .returned (.bool (strongF p mach picks.l)) ∧ Ext w w' := by
 have H := Own.start_ro w [IsProg p, SlIn 1 eByte picks, Glob] (List.forall_mem_cons.2 ⟨fun w' hw => hp.keep hw, List.forall_mem_cons.2 ⟨fun w' hw => hpicks.keep hw, List.forall_mem_cons.2 ⟨fun w' hw => hg_.keep hw, fun _ h => by cases h⟩⟩⟩)
 have hcp1 := hp.locs.2.2
 have hcp2 := hp.init.2.2
 have hcp3 := hp.threads.2.2
 have hcpicks := hpicks.2.2
 go_enter Tryz.func8, Tryz.ntmps8
 refine wp_seq ?_; refine wp_region_lit ?_; refine wl_box H rfl rfl (v := .agg (p.cells).toArray) rfl ?_
 clear H; intro b1 w1 hnb1 H; dsimp only [Value.cells] at H
 simp only [N]
 refine wasg (.bool false) ?_; simp only [N]
 refine wpList_nil ?_
 refine wp_seq ?_; refine wp_region_lit ?_; refine wmv (bv mach) ?_; simp only [N]
 refine wl_callE H rfl (rc_go Tryz.func21 (by kernel_rfl) rfl) (machineF_spec mach _ ) ?_
 clear H; intro w2 H
 simp only [N]
 refine wasg (bv (machineF mach)) ?_; simp only [N]
 refine wpList_nil ?_
 refine wp_seq ?_; refine wp_cutX (fun a' w' => ∃  (bd8 : Nat) (xd29_ : (Option Addr × Nat)), a' = ⟨#[(tq a' 0), bv mach, picks.val, .pointer (some ⟨b1, 0, none⟩), undef, undef, (tq a' 6), bv (machineF mach), .pointer (some ⟨bd8, 0, none⟩), (⟨xd29_.1, xd29_.2, (playF p (picks.l.take (min picks.l.length 60))).2.1⟩ : Sl Int).val, iv (playF p (picks.l.take (min picks.l.length 60))).2.2, undef, undef, undef, undef, undef, undef, undef, undef, undef, bv mach, (tq a' 21), (tq a' 22), (tq a' 23), (tq a' 24), (tq a' 25), (tq a' 26), (tq a' 27), (tq a' 28), (tq a' 29), (tq a' 30), (tq a' 31), (tq a' 32), undef, undef, undef, undef, undef, undef, undef, undef, undef, undef, undef, undef, undef, undef, undef, undef, undef, undef, undef, undef, undef, undef, undef, undef, undef, undef, undef, undef, undef, undef, undef, undef, undef, undef, undef, undef, undef, undef, undef, undef, undef, undef, undef, undef, undef, undef, undef, undef, undef, undef, undef, undef, undef, undef, undef, undef, undef, undef, undef, undef, undef, undef, undef, undef, undef, undef, undef, undef, undef, undef, undef, undef, undef, undef, undef, undef, undef, undef, undef, undef, undef, undef, undef, undef, undef, undef, undef, undef, undef, undef, undef, undef, undef, undef, undef, undef, undef, undef, undef, undef, undef, undef, undef, undef, undef, undef, undef, undef, undef, undef], []⟩ ∧ Own w [] [SlIn 1 eInt (⟨xd29_.1, xd29_.2, (playF p (picks.l.take (min picks.l.length 60))).2.1⟩ : Sl Int), IsProg p, SlIn 1 eByte picks, Glob] [.blk bd8 (.cells (enc (playF p (picks.l.take (min picks.l.length 60))).1).toArray 64 (0, 0)), .blk b1 (.cells (p.cells).toArray 29 (0, 0))] w' ∧ w.heap.size ≤ bd8 ∧ (strongF p mach picks.l) = strongF_a p mach picks.l) ?_ ?_
 ·
  refine wp_region_mix 15 H (by kernel_rfl) ?_
  refine wxl_tk 0 rfl (xy_run rfl (fun w H => rp_loadN H 0 rfl rfl rfl Tryz.underlying29 rfl sz29 (Nat.le_of_ble_eq_true rfl) (cs' := p.cells) rfl)) ?_; simp only [N]
  refine wxl_tk 1 rfl (xy_run rfl (fun w H => rp_move rfl (v := picks.val) rfl)) ?_; simp only [N]
  refine wxl_tk 2 rfl (xy_run rfl (fun w H => rp_move rfl (v := picks.val) rfl)) ?_; simp only [N]
  refine wxl_tk 3 rfl (xy_run rfl (fun w H => rp_len_sl (s := picks) Tryz.underlying23 rfl)) ?_; simp only [N]
  refine wxl_tk 4 rfl (xy_run rfl (fun w H => rp_vconv (rp_min2 rfl ((picks.l.length : Nat) : Int) (60 : Int) rfl rfl) (congrArg (Value.int .i64) (show min ((picks.l.length : Nat) : Int) (60 : Int) = (((min picks.l.length 60) : Nat) : Int) by omega)))) ?_; simp only [N]
  have hsl28 : (picks.l.take (min picks.l.length 60)).length ≤ 140737488355328 := by simp only [List.length_take, List.length_drop]; omega
  refine wxl_tk 5 rfl (xy_run rfl (fun w H => rp_slice_slh (H.ro_at 1 rfl) rfl Tryz.underlying23 sz5 rfl (min picks.l.length 60) rfl (by omega))) ?_; simp only [N]
  refine wxl_each2 6 11 (by kernel_rfl) ?_ ?_
  ·
   refine xs_fresh rfl rfl rfl (rc_go Tryz.func25 (by kernel_rfl) rfl) (fun w H => playF_spec p (⟨picks.ad, picks.cap, picks.l.take (min picks.l.length 60)⟩ : Sl UInt8) _ (H.ro_at 0 rfl) (SlIn.take (H.ro_at 1 rfl) (min picks.l.length 60) (by omega)) (H.ro_at 2 rfl)) ?_
   intro xd29_
   simp only [N, M, Value.cells]
   refine wxl_tk 7 rfl (xy_run rfl (fun w H => rp_move rfl (v := .tuple #[.agg (enc (playF p (picks.l.take (min picks.l.length 60))).1).toArray, (⟨xd29_.1, xd29_.2, (playF p (picks.l.take (min picks.l.length 60))).2.1⟩ : Sl Int).val, iv (playF p (picks.l.take (min picks.l.length 60))).2.2]) rfl)) ?_; simp only [N]
   refine wxl_tk 8 rfl (xy_run rfl (fun w H => rp_extract rfl rfl (v := .agg (enc (playF p (picks.l.take (min picks.l.length 60))).1).toArray) rfl)) ?_; simp only [N]
   refine wxl_tk 9 rfl (xy_run rfl (fun w H => rp_extract rfl rfl (v := (⟨xd29_.1, xd29_.2, (playF p (picks.l.take (min picks.l.length 60))).2.1⟩ : Sl Int).val) rfl)) ?_; simp only [N]
   refine wxl_tk 10 rfl (xy_run rfl (fun w H => rp_extract rfl rfl (v := iv (playF p (picks.l.take (min picks.l.length 60))).2.2) rfl)) ?_; simp only [N]
   refine wxl_alloc 11 rfl rfl (by kernel_rfl) rfl (xa_alloc rfl zv64) ?_
   intro bd8
   simp only [N, M, Value.cells]
   refine wxl_store 12 0 rfl rfl (by kernel_rfl) rfl rfl (xs_whole rfl rfl (vs := (enc (playF p (picks.l.take (min picks.l.length 60))).1).toArray) rfl (fun v hv => enc_one v (by simpa using hv)) (by first | exact sz64 | (rw [sz64]; congr 1; first | omega | simp [-List.reduceReplicate] <;> omega | simp [*, -List.reduceReplicate] <;> omega)) (by first | rfl | first | omega | simp [-List.reduceReplicate] <;> omega | simp [*, -List.reduceReplicate] <;> omega)) ?_
   simp only [N, M, Value.cells]
   refine wxl_tk 13 rfl (xy_run rfl (fun w H => rp_assign rfl (v := (⟨xd29_.1, xd29_.2, (playF p (picks.l.take (min picks.l.length 60))).2.1⟩ : Sl Int).val) rfl)) ?_; simp only [N]
   refine wxl_tk 14 rfl (xy_run rfl (fun w H => rp_assign rfl (v := iv (playF p (picks.l.take (min picks.l.length 60))).2.2) rfl)) ?_; simp only [N]
   refine wpX_done (by kernel_rfl) ?_ _
   clear H; intro w3 H; simp only [List.cons_append, List.nil_append] at H
   exact ⟨bd8, xd29_, (by kernel_rfl), H, (H.newrow 0 rfl _ rfl), rfl⟩
  ·
   refine xs_allocR rfl rfl rfl (xa_alloc rfl zv64) ?_
   intro bd8
   simp only [N, M, Value.cells]
   refine wxl_fresh 6 rfl rfl (by kernel_rfl) rfl (rc_go Tryz.func25 (by kernel_rfl) rfl) (fun w H => playF_spec p (⟨picks.ad, picks.cap, picks.l.take (min picks.l.length 60)⟩ : Sl UInt8) _ (H.ro_at 0 rfl) (SlIn.take (H.ro_at 1 rfl) (min picks.l.length 60) (by omega)) (H.ro_at 2 rfl)) ?_
   intro xd29_
   simp only [N, M, Value.cells]
   refine wxl_tk 7 rfl (xy_run rfl (fun w H => rp_move rfl (v := .tuple #[.agg (enc (playF p (picks.l.take (min picks.l.length 60))).1).toArray, (⟨xd29_.1, xd29_.2, (playF p (picks.l.take (min picks.l.length 60))).2.1⟩ : Sl Int).val, iv (playF p (picks.l.take (min picks.l.length 60))).2.2]) rfl)) ?_; simp only [N]
   refine wxl_tk 8 rfl (xy_run rfl (fun w H => rp_extract rfl rfl (v := .agg (enc (playF p (picks.l.take (min picks.l.length 60))).1).toArray) rfl)) ?_; simp only [N]
   refine wxl_tk 9 rfl (xy_run rfl (fun w H => rp_extract rfl rfl (v := (⟨xd29_.1, xd29_.2, (playF p (picks.l.take (min picks.l.length 60))).2.1⟩ : Sl Int).val) rfl)) ?_; simp only [N]
   refine wxl_tk 10 rfl (xy_run rfl (fun w H => rp_extract rfl rfl (v := iv (playF p (picks.l.take (min picks.l.length 60))).2.2) rfl)) ?_; simp only [N]
   refine wxl_store 12 0 rfl rfl (by kernel_rfl) rfl rfl (xs_whole rfl rfl (vs := (enc (playF p (picks.l.take (min picks.l.length 60))).1).toArray) rfl (fun v hv => enc_one v (by simpa using hv)) (by first | exact sz64 | (rw [sz64]; congr 1; first | omega | simp [-List.reduceReplicate] <;> omega | simp [*, -List.reduceReplicate] <;> omega)) (by first | rfl | first | omega | simp [-List.reduceReplicate] <;> omega | simp [*, -List.reduceReplicate] <;> omega)) ?_
   simp only [N, M, Value.cells]
   refine wxl_tk 13 rfl (xy_run rfl (fun w H => rp_assign rfl (v := (⟨xd29_.1, xd29_.2, (playF p (picks.l.take (min picks.l.length 60))).2.1⟩ : Sl Int).val) rfl)) ?_; simp only [N]
   refine wxl_tk 14 rfl (xy_run rfl (fun w H => rp_assign rfl (v := iv (playF p (picks.l.take (min picks.l.length 60))).2.2) rfl)) ?_; simp only [N]
   refine wpX_done (by kernel_rfl) ?_ _
   clear H; intro w4 H; simp only [List.cons_append, List.nil_append] at H
   exact ⟨bd8, xd29_, (by kernel_rfl), H, (H.newrow 0 rfl _ rfl), rfl⟩
 clear H
 rintro a_ w5 ⟨bd8, xd29_, ha_, H, hnbd8, hFa⟩
 obtain ⟨ua, hu_⟩ : ∃ ua : Nat → Value, a_ = ⟨#[(ua 0), bv mach, picks.val, .pointer (some ⟨b1, 0, none⟩), undef, undef, (ua 6), bv (machineF mach), .pointer (some ⟨bd8, 0, none⟩), (⟨xd29_.1, xd29_.2, (playF p (picks.l.take (min picks.l.length 60))).2.1⟩ : Sl Int).val, iv (playF p (picks.l.take (min picks.l.length 60))).2.2, undef, undef, undef, undef, undef, undef, undef, undef, undef, bv mach, (ua 21), (ua 22), (ua 23), (ua 24), (ua 25), (ua 26), (ua 27), (ua 28), (ua 29), (ua 30), (ua 31), (ua 32), undef, undef, undef, undef, undef, undef, undef, undef, undef, undef, undef, undef, undef, undef, undef, undef, undef, undef, undef, undef, undef, undef, undef, undef, undef, undef, undef, undef, undef, undef, undef, undef, undef, undef, undef, undef, undef, undef, undef, undef, undef, undef, undef, undef, undef, undef, undef, undef, undef, undef, undef, undef, undef, undef, undef, undef, undef, undef, undef, undef, undef, undef, undef, undef, undef, undef, undef, undef, undef, undef, undef, undef, undef, undef, undef, undef, undef, undef, undef, undef, undef, undef, undef, undef, undef, undef, undef, undef, undef, undef, undef, undef, undef, undef, undef, undef, undef, undef, undef, undef, undef, undef, undef, undef, undef, undef, undef, undef, undef, undef], []⟩ := ⟨fun n => tq a_ n, ha_⟩
 clear ha_; subst hu_
 refine wp_seq ?_; refine wp_region_lit ?_; refine wr (rp_loadN H 1 rfl rfl rfl Tryz.underlying29 rfl sz29 (Nat.le_of_ble_eq_true rfl) (cs' := p.cells) rfl) ?_; simp only [N]
 refine wl_callE H rfl (rc_go Tryz.func18 (by kernel_rfl) rfl) (startF_spec p _ (H.ro_at 1 rfl) (H.ro_at 3 rfl)) ?_
 clear H; intro w6 H
 simp only [N]
 refine wmv (.tuple #[.agg (enc (startF p).1).toArray, iv (startF p).2]) ?_; simp only [N]
 refine wr (rp_extract rfl rfl (v := .agg (enc (startF p).1).toArray) rfl) ?_; simp only [N]
 refine wr (rp_extract rfl rfl (v := iv (startF p).2) rfl) ?_; simp only [N]
 refine wl_alloc H rfl rfl zv41 ?_
 clear H; intro b2 w7 hnb2 H; dsimp only [Value.cells] at H
 simp only [N]
 simp only [enc_replicate] at H
 refine wl_storeA H 0 rfl rfl rfl rfl (startF p).1 rfl sz41 ?_
 clear H; intro w8 H; simp only [M] at H
 simp only [N]
 refine wasg (iv (startF p).2) ?_; simp only [N]
 refine wpList_nil ?_
 refine wp_seq ?_; refine wp_seq ?_; refine wp_region_lit ?_; refine wmv (iv (playF p (picks.l.take (min picks.l.length 60))).2.2) ?_; simp only [N]
 refine wr (rp_int_neq rfl (playF p (picks.l.take (min picks.l.length 60))).2.2 (0 : Int) rfl rfl) ?_; simp only [N]
 refine wmv (.bool ((playF p (picks.l.take (min picks.l.length 60))).2.2 != (0 : Int))) ?_; simp only [N]
 refine wl_g (wn_f rfl rfl) (v := iv (startF p).2) (fun hg => rp_move rfl (v := iv (startF p).2) rfl) ?_; simp only [N]
 refine wl_g (wn_f rfl rfl) (v := .bool ((startF p).2 != (0 : Int))) (fun hg => by have x2 : (playF p (picks.l.take (min picks.l.length 60))).2.2 = (0 : Int) := (by simpa using (notT hg)); exact (by simp only [gv_t hg]; exact rp_int_neq rfl (startF p).2 (0 : Int) rfl rfl)) ?_; simp only [N]
 refine wr (rp_pickO rfl (p := ((playF p (picks.l.take (min picks.l.length 60))).2.2 != (0 : Int))) (q := ((startF p).2 != (0 : Int))) rfl rfl rfl) ?_; simp only [N]
 refine wpList_nil ?_
 refine wp_cond_split rfl (fun hc1 => ?_) (fun hc1 => ?_)
 · --T 1
  refine wp_seq ?_; refine wp_region_lit ?_; refine wmv (iv (playF p (picks.l.take (min picks.l.length 60))).2.2) ?_; simp only [N]
  refine wmv (iv (startF p).2) ?_; simp only [N]
  refine wr (rp_int_eql rfl (playF p (picks.l.take (min picks.l.length 60))).2.2 (startF p).2 rfl rfl) ?_; simp only [N]
  refine wmv (.bool ((playF p (picks.l.take (min picks.l.length 60))).2.2 == (startF p).2)) ?_; simp only [N]
  refine wl_g (wn_t rfl rfl) (v := .agg (p.cells).toArray) (fun hg => rp_loadN H 2 rfl rfl rfl Tryz.underlying29 rfl sz29 (Nat.le_of_ble_eq_true rfl) (cs' := p.cells) rfl) ?_; simp only [N]
  refine wl_gE H (wn_t rfl rfl) (fun hg => fun w => by simp only [gv_t hg]; exact rc_go Tryz.func11 (by kernel_rfl) rfl w) (v := iv (rightF p)) (fun hg => by have x4 : (playF p (picks.l.take (min picks.l.length 60))).2.2 = (startF p).2 := (by simpa using hg); exact (rightF_spec p _ (H.ro_at 1 rfl) (H.ro_at 3 rfl))) ?_
  clear H; intro w9 H
  simp only [N]
  refine wl_g (wn_t rfl rfl) (v := .bool ((rightF p) != (0 : Int))) (fun hg => by have x5 : (playF p (picks.l.take (min picks.l.length 60))).2.2 = (startF p).2 := (by simpa using hg); exact (by simp only [gv_t hg]; exact rp_int_neq rfl (rightF p) (0 : Int) rfl rfl)) ?_; simp only [N]
  refine wr (rp_pickA rfl (p := ((playF p (picks.l.take (min picks.l.length 60))).2.2 == (startF p).2)) (q := ((rightF p) != (0 : Int))) rfl rfl rfl) ?_; simp only [N]
  refine wmv (.bool (((playF p (picks.l.take (min picks.l.length 60))).2.2 == (startF p).2) && ((rightF p) != (0 : Int)))) ?_; simp only [N]
  refine wl_gE H (wn_t rfl rfl) (fun hg => rc_go Tryz.func12 (by kernel_rfl) rfl) (v := .bool true) (fun hg => by have x6 : (playF p (picks.l.take (min picks.l.length 60))).2.2 = (startF p).2 := (by simpa using (andl hg)); have x7 : (rightF p) ≠ (0 : Int) := (by simpa using (andr hg)); exact (awakeB_spec' _ (H.ro_at 3 rfl))) ?_
  clear H; intro w10 H
  simp only [N]
  refine wr (rp_pickA rfl (p := (((playF p (picks.l.take (min picks.l.length 60))).2.2 == (startF p).2) && ((rightF p) != (0 : Int)))) (q := true) rfl rfl rfl) ?_; simp only [N]
  refine wasg (.bool ((((playF p (picks.l.take (min picks.l.length 60))).2.2 == (startF p).2) && ((rightF p) != (0 : Int))) && true)) ?_; simp only [N]
  refine wpList_nil ?_
  refine wp_ret ?_
  try simp only [Exit.inBlock, Exit.then, cutP]
  refine bodyPost_ret (results1 rfl (rv_tmp rfl)) rfl ?_
  have hF : (strongF p mach picks.l) = ((((playF p (picks.l.take (min picks.l.length 60))).2.2 == (startF p).2) && ((rightF p) != (0 : Int))) && true) := hFa.trans (bt hc1)
  rw [hF]
  exact ⟨rfl, H.ext⟩
 · --F 1
  have hc1N8 : (playF p (picks.l.take (min picks.l.length 60))).2.2 = (0 : Int) := (by simpa using (orl hc1))
  have hc1N9 : (startF p).2 = (0 : Int) := (by simpa using (orr hc1))
  have hrs := bstart_right (by simpa using orr hc1)
  have hok := right_ok hrs
  have hth4 := hok.threads.2
  have hpi := play_bounds hrs (picks.l.take (min picks.l.length 60))
  have hord := play_order hrs (picks.l.take (min picks.l.length 60))
  have hm4 := fun S => moves_len hok S
  refine wp_skip ?_
  refine wp_seq ?_; refine wp_seq ?_; refine wp_region_lit ?_; refine wmv ((⟨xd29_.1, xd29_.2, (playF p (picks.l.take (min picks.l.length 60))).2.1⟩ : Sl Int).val) ?_; simp only [N]
  refine wr (rp_len_sl (s := (⟨xd29_.1, xd29_.2, (playF p (picks.l.take (min picks.l.length 60))).2.1⟩ : Sl Int)) Tryz.underlying79 rfl) ?_; simp only [N]
  refine wmv (iv (0 : Int)) ?_; simp only [N]
  refine wpList_nil ?_
  refine wp_block ?_
  refine wp_loopX (fun m' a' w' => ∃ (b57 : Nat) (bb2 : List UInt8), a' = ⟨#[(ua 0), bv mach, picks.val, .pointer (some ⟨b1, 0, none⟩), undef, undef, (tq a' 6), bv (machineF mach), .pointer (some ⟨bd8, 0, none⟩), (tq a' 9), (tq a' 10), .pointer (some ⟨b2, 0, none⟩), (tq a' 12), undef, (tq a' 14), (tq a' 15), undef, (tq a' 17), (tq a' 18), (tq a' 19), bv mach, (ua 21), (ua 22), (ua 23), (ua 24), (ua 25), (ua 26), (ua 27), (ua 28), (ua 29), (ua 30), (ua 31), (ua 32), (tq a' 33), (tq a' 34), (tq a' 35), (tq a' 36), (tq a' 37), (tq a' 38), (tq a' 39), (tq a' 40), (tq a' 41), (tq a' 42), (tq a' 43), undef, undef, undef, undef, undef, undef, undef, undef, undef, undef, undef, (⟨xd29_.1, xd29_.2, (playF p (picks.l.take (min picks.l.length 60))).2.1⟩ : Sl Int).val, iv (((playF p (picks.l.take (min picks.l.length 60))).2.1.length : Nat) : Int), iv ((b57 : Nat) : Int), (tq a' 58), (tq a' 59), (tq a' 60), (tq a' 61), (tq a' 62), (tq a' 63), (tq a' 64), (tq a' 65), (tq a' 66), (tq a' 67), (tq a' 68), (tq a' 69), (tq a' 70), (tq a' 71), (tq a' 72), (tq a' 73), (tq a' 74), (tq a' 75), (tq a' 76), (tq a' 77), (tq a' 78), (tq a' 79), (tq a' 80), (tq a' 81), (tq a' 82), (tq a' 83), (tq a' 84), (tq a' 85), (tq a' 86), (tq a' 87), (tq a' 88), (tq a' 89), (tq a' 90), (tq a' 91), (tq a' 92), (tq a' 93), (tq a' 94), (tq a' 95), (tq a' 96), (tq a' 97), (tq a' 98), (tq a' 99), (tq a' 100), (tq a' 101), (tq a' 102), (tq a' 103), (tq a' 104), (tq a' 105), (tq a' 106), (tq a' 107), (tq a' 108), (tq a' 109), (tq a' 110), (tq a' 111), (tq a' 112), (tq a' 113), (tq a' 114), (tq a' 115), (tq a' 116), (tq a' 117), (tq a' 118), (tq a' 119), (tq a' 120), (tq a' 121), (tq a' 122), (tq a' 123), (tq a' 124), (tq a' 125), (tq a' 126), (tq a' 127), (tq a' 128), (tq a' 129), undef, undef, undef, undef, undef, undef, undef, undef, undef, undef, undef, undef, undef], []⟩ ∧ Own w [] [SlIn 1 eInt (⟨xd29_.1, xd29_.2, (playF p (picks.l.take (min picks.l.length 60))).2.1⟩ : Sl Int), IsProg p, SlIn 1 eByte picks, Glob] [.blk b2 (.cells (enc bb2).toArray 41 (0, 0)), .blk bd8 (.cells (enc (playF p (picks.l.take (min picks.l.length 60))).1).toArray 64 (0, 0)), .blk b1 (.cells (p.cells).toArray 29 (0, 0))] w' ∧ (bb2.length = 142) ∧ (b57 ≤ (playF p (picks.l.take (min picks.l.length 60))).2.1.length) ∧ (strongF p mach picks.l) = loopL (strongF_b p mach picks.l) (strongF_bk p mach picks.l) ((playF p (picks.l.take (min picks.l.length 60))).2.1.drop b57) (b57, bb2) ∧ m' = (playF p (picks.l.take (min picks.l.length 60))).2.1.length - b57) _ ⟨0, (startF p).1, (by kernel_rfl), H, (by first | omega | simp [-List.reduceReplicate] <;> omega | simp [*, -List.reduceReplicate] <;> omega), (by omega), hFa.trans (bf hc1), rfl⟩ ?_
  clear H
  rintro _ a_ w11 ⟨b57, bb2, ha_, H, hib0, hib1, hFb, rfl⟩
  obtain ⟨ub, hu_⟩ : ∃ ub : Nat → Value, a_ = ⟨#[(ua 0), bv mach, picks.val, .pointer (some ⟨b1, 0, none⟩), undef, undef, (ub 6), bv (machineF mach), .pointer (some ⟨bd8, 0, none⟩), (ub 9), (ub 10), .pointer (some ⟨b2, 0, none⟩), (ub 12), undef, (ub 14), (ub 15), undef, (ub 17), (ub 18), (ub 19), bv mach, (ua 21), (ua 22), (ua 23), (ua 24), (ua 25), (ua 26), (ua 27), (ua 28), (ua 29), (ua 30), (ua 31), (ua 32), (ub 33), (ub 34), (ub 35), (ub 36), (ub 37), (ub 38), (ub 39), (ub 40), (ub 41), (ub 42), (ub 43), undef, undef, undef, undef, undef, undef, undef, undef, undef, undef, undef, (⟨xd29_.1, xd29_.2, (playF p (picks.l.take (min picks.l.length 60))).2.1⟩ : Sl Int).val, iv (((playF p (picks.l.take (min picks.l.length 60))).2.1.length : Nat) : Int), iv ((b57 : Nat) : Int), (ub 58), (ub 59), (ub 60), (ub 61), (ub 62), (ub 63), (ub 64), (ub 65), (ub 66), (ub 67), (ub 68), (ub 69), (ub 70), (ub 71), (ub 72), (ub 73), (ub 74), (ub 75), (ub 76), (ub 77), (ub 78), (ub 79), (ub 80), (ub 81), (ub 82), (ub 83), (ub 84), (ub 85), (ub 86), (ub 87), (ub 88), (ub 89), (ub 90), (ub 91), (ub 92), (ub 93), (ub 94), (ub 95), (ub 96), (ub 97), (ub 98), (ub 99), (ub 100), (ub 101), (ub 102), (ub 103), (ub 104), (ub 105), (ub 106), (ub 107), (ub 108), (ub 109), (ub 110), (ub 111), (ub 112), (ub 113), (ub 114), (ub 115), (ub 116), (ub 117), (ub 118), (ub 119), (ub 120), (ub 121), (ub 122), (ub 123), (ub 124), (ub 125), (ub 126), (ub 127), (ub 128), (ub 129), undef, undef, undef, undef, undef, undef, undef, undef, undef, undef, undef, undef, undef], []⟩ := ⟨fun n => tq a_ n, ha_⟩
  clear ha_; subst hu_
  have hpb := hpi b57
  refine wp_seq ?_; refine wp_region_lit ?_; refine wr (rp_int_lss rfl ((b57 : Nat) : Int) (((playF p (picks.l.take (min picks.l.length 60))).2.1.length : Nat) : Int) rfl rfl) ?_; simp only [N]
  refine wpList_nil ?_
  refine wp_seq ?_; refine wp_cond_split rfl (fun hc2 => ?_) (fun hc2 => ?_)
  · --T 2
   have hc2N10 : ((b57 : Nat) : Int) < (((playF p (picks.l.take (min picks.l.length 60))).2.1.length : Nat) : Int) := (by simpa using hc2)
   obtain ⟨rb, hrb⟩ : ∃ r, r = loopL (strongF_b p mach picks.l) (strongF_bk p mach picks.l) ((playF p (picks.l.take (min picks.l.length 60))).2.1.drop (b57 + 1)) := ⟨_, rfl⟩
   have hFb2 := hFb.trans (loopL_step (show b57 < (playF p (picks.l.take (min picks.l.length 60))).2.1.length by omega))
   rw [← hrb] at hFb2
   refine wp_skip ?_
   refine wp_seq ?_; refine wp_block ?_
   refine wp_seq ?_; refine wp_region_lit ?_; refine wr (rp_indexAddr_sl (H.ro_at 0 rfl) rfl Tryz.underlying79 sz3 rfl b57 rfl (by show _ < (playF p (picks.l.take (min picks.l.length 60))).2.1.length; omega)) ?_; simp only [N]
   refine wr (rp_load1_sl (H.ro_at 0 rfl) b57 (by show _ < (playF p (picks.l.take (min picks.l.length 60))).2.1.length; omega) rfl Tryz.underlying3 rfl 0 rfl (by omega) (v := iv ((playF p (picks.l.take (min picks.l.length 60))).2.1.getD b57 default)) rfl) ?_; simp only [N]
   refine wasg (iv ((playF p (picks.l.take (min picks.l.length 60))).2.1.getD b57 default)) ?_; simp only [N]
   refine wpList_nil ?_
   refine wp_seq ?_; refine wp_cutX (fun a' w' => ∃ (_ : Unit), a' = ⟨#[(ua 0), bv mach, picks.val, .pointer (some ⟨b1, 0, none⟩), undef, undef, (tq a' 6), bv (machineF mach), .pointer (some ⟨bd8, 0, none⟩), (ub 9), (ub 10), .pointer (some ⟨b2, 0, none⟩), (ub 12), undef, iv ((playF p (picks.l.take (min picks.l.length 60))).2.1.getD b57 default), (tq a' 15), undef, (tq a' 17), (ub 18), (ub 19), bv mach, (ua 21), (ua 22), (ua 23), (ua 24), (ua 25), (ua 26), (ua 27), (ua 28), (ua 29), (ua 30), (ua 31), (ua 32), (ub 33), (ub 34), (ub 35), (ub 36), (ub 37), (ub 38), (ub 39), (ub 40), (ub 41), (ub 42), (ub 43), undef, undef, undef, undef, undef, undef, undef, undef, undef, undef, undef, (⟨xd29_.1, xd29_.2, (playF p (picks.l.take (min picks.l.length 60))).2.1⟩ : Sl Int).val, iv (((playF p (picks.l.take (min picks.l.length 60))).2.1.length : Nat) : Int), iv ((b57 : Nat) : Int), (tq a' 58), (tq a' 59), (tq a' 60), (tq a' 61), (tq a' 62), (tq a' 63), (tq a' 64), (tq a' 65), (tq a' 66), (tq a' 67), (tq a' 68), (tq a' 69), (tq a' 70), (tq a' 71), (tq a' 72), (tq a' 73), (tq a' 74), (tq a' 75), (tq a' 76), (tq a' 77), (tq a' 78), (tq a' 79), (tq a' 80), (tq a' 81), (tq a' 82), (tq a' 83), (tq a' 84), (ub 85), (ub 86), (ub 87), (ub 88), (ub 89), (ub 90), (ub 91), (ub 92), (ub 93), (ub 94), (ub 95), (ub 96), (ub 97), (ub 98), (ub 99), (ub 100), (ub 101), (ub 102), (ub 103), (ub 104), (ub 105), (ub 106), (ub 107), (ub 108), (ub 109), (ub 110), (ub 111), (ub 112), (ub 113), (ub 114), (ub 115), (ub 116), (ub 117), (ub 118), (ub 119), (ub 120), (ub 121), (ub 122), (ub 123), (ub 124), (ub 125), (ub 126), (ub 127), (ub 128), (ub 129), undef, undef, undef, undef, undef, undef, undef, undef, undef, undef, undef, undef, undef], []⟩ ∧ Own w [] [SlIn 1 eInt (⟨xd29_.1, xd29_.2, (playF p (picks.l.take (min picks.l.length 60))).2.1⟩ : Sl Int), IsProg p, SlIn 1 eByte picks, Glob] [.blk b2 (.cells (enc bb2).toArray 41 (0, 0)), .blk bd8 (.cells (enc (playF p (picks.l.take (min picks.l.length 60))).1).toArray 64 (0, 0)), .blk b1 (.cells (p.cells).toArray 29 (0, 0))] w' ∧ (strongF p mach picks.l) = strongF_c p mach picks.l b57 bb2 rb) ?_ ?_
   ·
    refine wp_seq ?_; refine wp_region_lit ?_; refine wmv (bv (machineF mach)) ?_; simp only [N]
    refine wr (rp_u8_eql rfl (machineF mach) (1 : UInt8) rfl rfl) ?_; simp only [N]
    refine wpList_nil ?_
    refine wp_cond_split rfl (fun hc3 => ?_) (fun hc3 => ?_)
    · --T 3
     have hc3N11 : (machineF mach).toNat = 1 := u8_eq hc3
     refine wp_seq ?_; refine wp_region_lit ?_; refine wasg ((.slice none 0 0)) ?_; simp only [N]
     refine wpList_nil ?_
     refine wp_seq ?_; refine wp_seq ?_; refine wp_region_lit ?_; refine wr (rp_loadN H 2 rfl rfl rfl Tryz.underlying29 rfl sz29 (Nat.le_of_ble_eq_true rfl) (cs' := p.cells) rfl) ?_; simp only [N]
     refine wr (rp_loadWA H 0 rfl rfl rfl Tryz.underlying41 rfl sz41 rfl) ?_; simp only [N]
     refine wl_callFA H rfl (rc_go Tryz.func26 (by kernel_rfl) rfl) (movesF_spec p bb2 (by first | omega | simp [-List.reduceReplicate] <;> omega | simp [*, -List.reduceReplicate] <;> omega) _ (H.ro_at 1 rfl) (H.ro_at 3 rfl)) ?_
     clear H; intro x1_ w12 H
     simp only [N]
     have hcx1_0 : (movesF p bb2).length ≤ 140737488355328 := (FreshAt.now (H.ro_at 0 rfl)).2.2.1
     refine wr (rp_len_sl (s := (⟨x1_.1, x1_.2, (movesF p bb2)⟩ : Sl Int)) Tryz.underlying79 rfl) ?_; simp only [N]
     refine wmv (iv (0 : Int)) ?_; simp only [N]
     refine wpList_nil ?_
     refine wp_block ?_
     have H := H.rowNilT Pass.cells 50 3
     refine wp_loopX (fun m' a' w' => ∃ (d67 : Nat) (drow1 : List Pass) (dvrow1 : Value), a' = ⟨#[(ua 0), bv mach, picks.val, .pointer (some ⟨b1, 0, none⟩), undef, undef, (ub 6), bv (machineF mach), .pointer (some ⟨bd8, 0, none⟩), (ub 9), (ub 10), .pointer (some ⟨b2, 0, none⟩), (ub 12), undef, iv ((playF p (picks.l.take (min picks.l.length 60))).2.1.getD b57 default), dvrow1, undef, (tq a' 17), (ub 18), (ub 19), bv mach, (ua 21), (ua 22), (ua 23), (ua 24), (ua 25), (ua 26), (ua 27), (ua 28), (ua 29), (ua 30), (ua 31), (ua 32), (ub 33), (ub 34), (ub 35), (ub 36), (ub 37), (ub 38), (ub 39), (ub 40), (ub 41), (ub 42), (ub 43), undef, undef, undef, undef, undef, undef, undef, undef, undef, undef, undef, (⟨xd29_.1, xd29_.2, (playF p (picks.l.take (min picks.l.length 60))).2.1⟩ : Sl Int).val, iv (((playF p (picks.l.take (min picks.l.length 60))).2.1.length : Nat) : Int), iv ((b57 : Nat) : Int), (tq a' 58), (tq a' 59), (tq a' 60), (tq a' 61), (tq a' 62), (tq a' 63), (tq a' 64), (⟨x1_.1, x1_.2, (movesF p bb2)⟩ : Sl Int).val, iv (((movesF p bb2).length : Nat) : Int), iv ((d67 : Nat) : Int), (tq a' 68), (tq a' 69), (tq a' 70), (tq a' 71), (tq a' 72), (tq a' 73), (tq a' 74), (tq a' 75), (tq a' 76), (tq a' 77), (ub 78), (ub 79), (ub 80), (ub 81), (ub 82), (ub 83), (ub 84), (ub 85), (ub 86), (ub 87), (ub 88), (ub 89), (ub 90), (ub 91), (ub 92), (ub 93), (ub 94), (ub 95), (ub 96), (ub 97), (ub 98), (ub 99), (ub 100), (ub 101), (ub 102), (ub 103), (ub 104), (ub 105), (ub 106), (ub 107), (ub 108), (ub 109), (ub 110), (ub 111), (ub 112), (ub 113), (ub 114), (ub 115), (ub 116), (ub 117), (ub 118), (ub 119), (ub 120), (ub 121), (ub 122), (ub 123), (ub 124), (ub 125), (ub 126), (ub 127), (ub 128), (ub 129), undef, undef, undef, undef, undef, undef, undef, undef, undef, undef, undef, undef, undef], []⟩ ∧ Own w [] [FreshAt w (SlIn 1 eInt (⟨x1_.1, x1_.2, (movesF p bb2)⟩ : Sl Int)), SlIn 1 eInt (⟨xd29_.1, xd29_.2, (playF p (picks.l.take (min picks.l.length 60))).2.1⟩ : Sl Int), IsProg p, SlIn 1 eByte picks, Glob] [.row dvrow1 50 3 drow1.length (drow1.flatMap Pass.cells), .blk b2 (.cells (enc bb2).toArray 41 (0, 0)), .blk bd8 (.cells (enc (playF p (picks.l.take (min picks.l.length 60))).1).toArray 64 (0, 0)), .blk b1 (.cells (p.cells).toArray 29 (0, 0))] w' ∧ (drow1.length ≤ 4 * d67) ∧ (d67 ≤ (movesF p bb2).length) ∧ (strongF p mach picks.l) = loopL strongF_d (strongF_dk p mach picks.l b57 bb2 rb) ((movesF p bb2).drop d67) drow1 ∧ m' = (movesF p bb2).length - d67) _ ⟨0, ([] : List Pass), (.slice none 0 0), (by kernel_rfl), H, (by simp), (by omega), hFb2.trans (bt hc3), rfl⟩ ?_
     clear H
     rintro _ a_ w13 ⟨d67, drow1, dvrow1, ha_, H, hid0, hid1, hFd, rfl⟩
     obtain ⟨ud, hu_⟩ : ∃ ud : Nat → Value, a_ = ⟨#[(ua 0), bv mach, picks.val, .pointer (some ⟨b1, 0, none⟩), undef, undef, (ub 6), bv (machineF mach), .pointer (some ⟨bd8, 0, none⟩), (ub 9), (ub 10), .pointer (some ⟨b2, 0, none⟩), (ub 12), undef, iv ((playF p (picks.l.take (min picks.l.length 60))).2.1.getD b57 default), dvrow1, undef, (ud 17), (ub 18), (ub 19), bv mach, (ua 21), (ua 22), (ua 23), (ua 24), (ua 25), (ua 26), (ua 27), (ua 28), (ua 29), (ua 30), (ua 31), (ua 32), (ub 33), (ub 34), (ub 35), (ub 36), (ub 37), (ub 38), (ub 39), (ub 40), (ub 41), (ub 42), (ub 43), undef, undef, undef, undef, undef, undef, undef, undef, undef, undef, undef, (⟨xd29_.1, xd29_.2, (playF p (picks.l.take (min picks.l.length 60))).2.1⟩ : Sl Int).val, iv (((playF p (picks.l.take (min picks.l.length 60))).2.1.length : Nat) : Int), iv ((b57 : Nat) : Int), (ud 58), (ud 59), (ud 60), (ud 61), (ud 62), (ud 63), (ud 64), (⟨x1_.1, x1_.2, (movesF p bb2)⟩ : Sl Int).val, iv (((movesF p bb2).length : Nat) : Int), iv ((d67 : Nat) : Int), (ud 68), (ud 69), (ud 70), (ud 71), (ud 72), (ud 73), (ud 74), (ud 75), (ud 76), (ud 77), (ub 78), (ub 79), (ub 80), (ub 81), (ub 82), (ub 83), (ub 84), (ub 85), (ub 86), (ub 87), (ub 88), (ub 89), (ub 90), (ub 91), (ub 92), (ub 93), (ub 94), (ub 95), (ub 96), (ub 97), (ub 98), (ub 99), (ub 100), (ub 101), (ub 102), (ub 103), (ub 104), (ub 105), (ub 106), (ub 107), (ub 108), (ub 109), (ub 110), (ub 111), (ub 112), (ub 113), (ub 114), (ub 115), (ub 116), (ub 117), (ub 118), (ub 119), (ub 120), (ub 121), (ub 122), (ub 123), (ub 124), (ub 125), (ub 126), (ub 127), (ub 128), (ub 129), undef, undef, undef, undef, undef, undef, undef, undef, undef, undef, undef, undef, undef], []⟩ := ⟨fun n => tq a_ n, ha_⟩
     clear ha_; subst hu_
     have hmb := hm4 bb2
     refine wp_seq ?_; refine wp_region_lit ?_; refine wr (rp_int_lss rfl ((d67 : Nat) : Int) (((movesF p bb2).length : Nat) : Int) rfl rfl) ?_; simp only [N]
     refine wpList_nil ?_
     refine wp_seq ?_; refine wp_cond_split rfl (fun hc4 => ?_) (fun hc4 => ?_)
     · --T 4
      have hc4N12 : ((d67 : Nat) : Int) < (((movesF p bb2).length : Nat) : Int) := (by simpa using hc4)
      obtain ⟨rd, hrd⟩ : ∃ r, r = loopL strongF_d (strongF_dk p mach picks.l b57 bb2 rb) ((movesF p bb2).drop (d67 + 1)) := ⟨_, rfl⟩
      have hFd2 := hFd.trans (loopL_step (show d67 < (movesF p bb2).length by omega))
      rw [← hrd] at hFd2
      refine wp_skip ?_
      refine wp_seq ?_; refine wp_block ?_
      refine wp_seq ?_; refine wp_region_lit ?_; refine wr (rp_indexAddr_sl (FreshAt.now (H.ro_at 0 rfl)) rfl Tryz.underlying79 sz3 rfl d67 rfl (by show _ < (movesF p bb2).length; omega)) ?_; simp only [N]
      refine wr (rp_load1_sl (FreshAt.now (H.ro_at 0 rfl)) d67 (by show _ < (movesF p bb2).length; omega) rfl Tryz.underlying3 rfl 0 rfl (by omega) (v := iv ((movesF p bb2).getD d67 default)) rfl) ?_; simp only [N]
      refine wasg (iv ((movesF p bb2).getD d67 default)) ?_; simp only [N]
      refine wpList_nil ?_
      refine wp_region_lit ?_; refine wmv dvrow1 ?_; simp only [N]
      refine wmv (iv ((movesF p bb2).getD d67 default)) ?_; simp only [N]
      refine wr (rp_int_to_u8 rfl Tryz.underlying3 Tryz.underlying5 ((movesF p bb2).getD d67 default) rfl) ?_; simp only [N]
      refine wr (rp_build rfl (vs := [(0, bv (UInt8.ofNat (((movesF p bb2).getD d67 default) % 256).toNat))]) rfl (cs := #[bv (UInt8.ofNat (((movesF p bb2).getD d67 default) % 256).toNat), .bool false, bv (0 : UInt8)]) (by kernel_rfl)) ?_; simp only [N]
      refine wl_xallocF H rfl (xa_buildSlice rfl Tryz.underlying44 sz50 zv50 (by decide) (by decide) (vs := [(0, .agg #[bv (UInt8.ofNat (((movesF p bb2).getD d67 default) % 256).toNat), .bool false, bv (0 : UInt8)])]) rfl (cs := #[bv (UInt8.ofNat (((movesF p bb2).getD d67 default) % 256).toNat), .bool false, bv (0 : UInt8)]) (by kernel_rfl)) ?_
      clear H; intro b3 w14 hnb3 H
      simp only [N]
      refine wl_appendT Pass.cells H 0 rfl Tryz.underlying44 sz50 zv50 by50 rfl (by decide) rfl rfl (ad := ⟨b3, 0, none⟩) (m := 1) (c := 1) rfl [(⟨(UInt8.ofNat (((movesF p bb2).getD d67 default) % 256).toNat), false, (0 : UInt8)⟩ : Pass)] rfl Pass.cells_n (fun j u hu => cell_of_news (H.ro_at 0 rfl) j u hu) (by intro x; simp [Pass.cells, Value.oneCell']) (by first | omega | (simp only [List.length_append, List.length_cons, List.length_nil]; omega)) (by first | omega | (simp only [List.length_append, List.length_cons, List.length_nil]; omega)) (by simp) ?_
      clear H; intro b4 w15 H; simp only [M] at H
      simp only [N]
      refine wasg b4 ?_; simp only [N]
      refine wpList_nil ?_
      refine wp_region_lit ?_; refine wr (rp_int_add rfl ((d67 : Nat) : Int) (1 : Int) rfl rfl (by omega)) ?_; simp only [N]
      refine wmv (iv (((d67 : Nat) : Int) + (1 : Int))) ?_; simp only [N]
      refine wpList_nil ?_
      replace H := H.facts (R' := [FreshAt w (SlIn 1 eInt (⟨x1_.1, x1_.2, (movesF p bb2)⟩ : Sl Int)), SlIn 1 eInt (⟨xd29_.1, xd29_.2, (playF p (picks.l.take (min picks.l.length 60))).2.1⟩ : Sl Int), IsProg p, SlIn 1 eByte picks, Glob]) (by first | exact fun _ h => h | simp)
      show ∃ n', n' < _ ∧ _
      refine ⟨_, ?_, (d67 + 1), (drow1 ++ [(⟨(UInt8.ofNat (((movesF p bb2).getD d67 default) % 256).toNat), false, (0 : UInt8)⟩ : Pass)]), b4, (by kernel_rfl), H, (by simp only [List.length_append, List.length_cons, List.length_nil]; omega), (by omega), hFd2.trans (congrFun hrd _), rfl⟩
      omega
     · --F 4
      have hc4N13 : (((movesF p bb2).length : Nat) : Int) ≤ ((d67 : Nat) : Int) := (by simpa using hc4)
      have hFd2 := hFd.trans (loopL_end (show (movesF p bb2).length ≤ d67 by omega))
      refine wp_exit ?_
      refine wp_seq ?_; refine wp_region_lit ?_; refine wr (rp_loadN H 3 rfl rfl rfl Tryz.underlying29 rfl sz29 (Nat.le_of_ble_eq_true rfl) (cs' := p.cells) rfl) ?_; simp only [N]
      refine wmv (bv (machineF mach)) ?_; simp only [N]
      refine wr (rp_loadWA H 1 rfl rfl rfl Tryz.underlying41 rfl sz41 rfl) ?_; simp only [N]
      refine wl_callFA H rfl (rc_go Tryz.func10 (by kernel_rfl) rfl) (bMovesF_spec p (machineF mach) bb2 (by first | omega | simp [-List.reduceReplicate] <;> omega | simp [*, -List.reduceReplicate] <;> omega) _ (H.ro_at 2 rfl) (H.ro_at 4 rfl)) ?_
      clear H; intro x2_ w16 H
      simp only [N]
      have hcx2_0 : (bMovesF p (machineF mach) bb2).length ≤ 140737488355328 := (FreshAt.now (H.ro_at 0 rfl)).2.2.1
      obtain ⟨fz1, hfz1, hfs1⟩ := row_sl H 0 rfl drow1 rfl rfl Pass.cells_n (by first | omega | (simp only [List.length_append, List.length_cons, List.length_nil]; omega))
      replace H := H.order [0, 1, 2, 3] rfl (L' := [.row dvrow1 50 3 drow1.length (drow1.flatMap Pass.cells), .blk b2 (.cells (enc bb2).toArray 41 (0, 0)), .blk bd8 (.cells (enc (playF p (picks.l.take (min picks.l.length 60))).1).toArray 64 (0, 0)), .blk b1 (.cells (p.cells).toArray 29 (0, 0))]) rfl
      replace H := H.freeze (H.newrow 0 rfl)
      replace H := H.infer (SlIn 3 Pass.cells (⟨fz1.1, fz1.2, drow1⟩ : Sl Pass)) (fun _ hR => hfs1 _ (ro_mem hR 0 rfl))
      subst hfz1
      have hcfz1 : drow1.length ≤ 140737488355328 := (H.ro_at 0 rfl).2.2.1
      refine wmv ((⟨fz1.1, fz1.2, drow1⟩ : Sl Pass).val) ?_; simp only [N]
      refine wl_callE H rfl (rc_go Tryz.func27 (by kernel_rfl) rfl) (passesEq_spec (⟨x2_.1, x2_.2, (bMovesF p (machineF mach) bb2)⟩ : Sl Pass) (⟨fz1.1, fz1.2, drow1⟩ : Sl Pass) _ (FreshAt.now (H.ro_at 2 rfl)) (H.ro_at 0 rfl)) ?_
      clear H; intro w17 H
      simp only [N]
      generalize hv83 : (passesEq (bMovesF p (machineF mach) bb2) drow1) = v83
      have hFv83 : (strongF p mach picks.l) = strongF_v83 p mach picks.l b57 bb2 rb v83 := by first | (rw [← hv83]; exact hFd2) | exact hFd2
      refine wr (rp_not rfl v83 rfl) ?_; simp only [N]
      refine wpList_nil ?_
      refine wp_cond_split rfl (fun hc5 => ?_) (fun hc5 => ?_)
      · --T 5
       refine wp_seq ?_; refine wp_region_lit ?_; refine wasg (.bool false) ?_; simp only [N]
       refine wpList_nil ?_
       refine wp_ret ?_
       try simp only [Exit.inBlock, Exit.then, cutP]
       refine bodyPost_ret (results1 rfl (rv_tmp rfl)) rfl ?_
       have hF : (strongF p mach picks.l) = false := hFv83.trans (bt hc5)
       rw [hF]
       exact ⟨rfl, H.ext⟩
      · --F 5
       refine wp_skip ?_
       replace H := H.facts (R' := [SlIn 1 eInt (⟨xd29_.1, xd29_.2, (playF p (picks.l.take (min picks.l.length 60))).2.1⟩ : Sl Int), IsProg p, SlIn 1 eByte picks, Glob]) (by first | exact fun _ h => h | simp)
       exact ⟨(), (by kernel_rfl), H, hFv83.trans (bf hc5)⟩
    · --F 3
     have hc3N14 : (machineF mach).toNat ≠ 1 := u8_ne hc3
     refine wp_skip ?_
     exact ⟨(), (by kernel_rfl), H, hFb2.trans (bf hc3)⟩
   clear H
   rintro a_ w18 ⟨_, ha_, H, hFc⟩
   obtain ⟨uc, hu_⟩ : ∃ uc : Nat → Value, a_ = ⟨#[(ua 0), bv mach, picks.val, .pointer (some ⟨b1, 0, none⟩), undef, undef, (uc 6), bv (machineF mach), .pointer (some ⟨bd8, 0, none⟩), (ub 9), (ub 10), .pointer (some ⟨b2, 0, none⟩), (ub 12), undef, iv ((playF p (picks.l.take (min picks.l.length 60))).2.1.getD b57 default), (uc 15), undef, (uc 17), (ub 18), (ub 19), bv mach, (ua 21), (ua 22), (ua 23), (ua 24), (ua 25), (ua 26), (ua 27), (ua 28), (ua 29), (ua 30), (ua 31), (ua 32), (ub 33), (ub 34), (ub 35), (ub 36), (ub 37), (ub 38), (ub 39), (ub 40), (ub 41), (ub 42), (ub 43), undef, undef, undef, undef, undef, undef, undef, undef, undef, undef, undef, (⟨xd29_.1, xd29_.2, (playF p (picks.l.take (min picks.l.length 60))).2.1⟩ : Sl Int).val, iv (((playF p (picks.l.take (min picks.l.length 60))).2.1.length : Nat) : Int), iv ((b57 : Nat) : Int), (uc 58), (uc 59), (uc 60), (uc 61), (uc 62), (uc 63), (uc 64), (uc 65), (uc 66), (uc 67), (uc 68), (uc 69), (uc 70), (uc 71), (uc 72), (uc 73), (uc 74), (uc 75), (uc 76), (uc 77), (uc 78), (uc 79), (uc 80), (uc 81), (uc 82), (uc 83), (uc 84), (ub 85), (ub 86), (ub 87), (ub 88), (ub 89), (ub 90), (ub 91), (ub 92), (ub 93), (ub 94), (ub 95), (ub 96), (ub 97), (ub 98), (ub 99), (ub 100), (ub 101), (ub 102), (ub 103), (ub 104), (ub 105), (ub 106), (ub 107), (ub 108), (ub 109), (ub 110), (ub 111), (ub 112), (ub 113), (ub 114), (ub 115), (ub 116), (ub 117), (ub 118), (ub 119), (ub 120), (ub 121), (ub 122), (ub 123), (ub 124), (ub 125), (ub 126), (ub 127), (ub 128), (ub 129), undef, undef, undef, undef, undef, undef, undef, undef, undef, undef, undef, undef, undef], []⟩ := ⟨fun n => tq a_ n, ha_⟩
   clear ha_; subst hu_
   refine wp_seq ?_; refine wp_region_lit ?_; refine wr (rp_loadN H 2 rfl rfl rfl Tryz.underlying29 rfl sz29 (Nat.le_of_ble_eq_true rfl) (cs' := p.cells) rfl) ?_; simp only [N]
   refine wr (rp_loadWA H 0 rfl rfl rfl Tryz.underlying41 rfl sz41 rfl) ?_; simp only [N]
   refine wmv (iv ((playF p (picks.l.take (min picks.l.length 60))).2.1.getD b57 default)) ?_; simp only [N]
   refine wl_callE H rfl (rc_go Tryz.func14 (by kernel_rfl) rfl) (storeF_spec p bb2 ((playF p (picks.l.take (min picks.l.length 60))).2.1.getD b57 default) (by first | omega | simp [-List.reduceReplicate] <;> omega | simp [*, -List.reduceReplicate] <;> omega) (by omega) (by omega) _ (H.ro_at 1 rfl)) ?_
   clear H; intro w19 H
   simp only [N]
   generalize hv88 : (storeF p bb2 ((playF p (picks.l.take (min picks.l.length 60))).2.1.getD b57 default)) = v88
   have hFv88 : (strongF p mach picks.l) = strongF_v88 p mach picks.l b57 bb2 rb v88 := by first | (rw [← hv88]; exact hFc) | exact hFc
   refine wasg (.bool v88) ?_; simp only [N]
   refine wpList_nil ?_
   refine wp_seq ?_; refine wp_seq ?_; refine wp_region_lit ?_; refine wr (rp_loadN H 2 rfl rfl rfl Tryz.underlying29 rfl sz29 (Nat.le_of_ble_eq_true rfl) (cs' := p.cells) rfl) ?_; simp only [N]
   refine wmv (bv (machineF mach)) ?_; simp only [N]
   refine wr (rp_loadWA H 0 rfl rfl rfl Tryz.underlying41 rfl sz41 rfl) ?_; simp only [N]
   refine wmv (iv ((playF p (picks.l.take (min picks.l.length 60))).2.1.getD b57 default)) ?_; simp only [N]
   refine wr (rp_int_to_u8 rfl Tryz.underlying3 Tryz.underlying5 ((playF p (picks.l.take (min picks.l.length 60))).2.1.getD b57 default) rfl) ?_; simp only [N]
   refine wr (rp_build rfl (vs := [(0, bv (UInt8.ofNat (((playF p (picks.l.take (min picks.l.length 60))).2.1.getD b57 default) % 256).toNat))]) rfl (cs := #[bv (UInt8.ofNat (((playF p (picks.l.take (min picks.l.length 60))).2.1.getD b57 default) % 256).toNat), .bool false, bv (0 : UInt8)]) (by kernel_rfl)) ?_; simp only [N]
   refine wl_callE H rfl (rc_go Tryz.func13 (by kernel_rfl) rfl) (bMoveF_spec p (machineF mach) bb2 (⟨(UInt8.ofNat (((playF p (picks.l.take (min picks.l.length 60))).2.1.getD b57 default) % 256).toNat), false, (0 : UInt8)⟩ : Pass) (by first | omega | simp [-List.reduceReplicate] <;> omega | simp [*, -List.reduceReplicate] <;> omega) _ (H.ro_at 1 rfl) (H.ro_at 3 rfl)) ?_
   clear H; intro w20 H
   simp only [N]
   generalize hv96 : (bMoveF p (machineF mach) bb2 (⟨(UInt8.ofNat (((playF p (picks.l.take (min picks.l.length 60))).2.1.getD b57 default) % 256).toNat), false, (0 : UInt8)⟩ : Pass)) = v96
   have hFv96 : (strongF p mach picks.l) = strongF_v96 p mach picks.l b57 v88 rb v96 := by first | (rw [← hv96]; exact hFv88) | exact hFv88
   have hlv96 : (v96.1).length = 142 := by rw [← hv96]; first | omega | simp [-List.reduceReplicate] <;> omega | simp [*, -List.reduceReplicate] <;> omega
   refine wmv (.tuple #[.agg (enc v96.1).toArray, iv v96.2]) ?_; simp only [N]
   refine wr (rp_extract rfl rfl (v := .agg (enc v96.1).toArray) rfl) ?_; simp only [N]
   refine wr (rp_extract rfl rfl (v := iv v96.2) rfl) ?_; simp only [N]
   refine wl_storeA H 0 rfl rfl rfl rfl v96.1 rfl sz41 ?_
   clear H; intro w21 H; simp only [M] at H
   simp only [N]
   refine wasg (iv v96.2) ?_; simp only [N]
   refine wpList_nil ?_
   refine wp_seq ?_; refine wp_region_lit ?_; refine wmv (iv v96.2) ?_; simp only [N]
   refine wr (rp_int_neq rfl v96.2 (0 : Int) rfl rfl) ?_; simp only [N]
   refine wpList_nil ?_
   refine wp_cond_split rfl (fun hc6 => ?_) (fun hc6 => ?_)
   · --T 6
    have hc6N15 : v96.2 ≠ (0 : Int) := (by simpa using hc6)
    refine wp_seq ?_; refine wp_region_lit ?_; refine wasg (.bool false) ?_; simp only [N]
    refine wpList_nil ?_
    refine wp_ret ?_
    try simp only [Exit.inBlock, Exit.then, cutP]
    refine bodyPost_ret (results1 rfl (rv_tmp rfl)) rfl ?_
    have hF : (strongF p mach picks.l) = false := hFv96.trans (bt hc6)
    rw [hF]
    exact ⟨rfl, H.ext⟩
   · --F 6
    have hc6N16 : v96.2 = (0 : Int) := (by simpa using hc6)
    refine wp_skip ?_
    refine wp_seq ?_; refine wp_seq ?_; refine wp_region_lit ?_; refine wmv (.bool v88) ?_; simp only [N]
    refine wr (rp_not rfl v88 rfl) ?_; simp only [N]
    refine wmv (.bool (!v88)) ?_; simp only [N]
    refine wl_g (wn_f rfl rfl) (v := bv (machineF mach)) (fun hg => rp_move rfl (v := bv (machineF mach)) rfl) ?_; simp only [N]
    refine wl_g (wn_f rfl rfl) (v := .bool ((machineF mach) == (1 : UInt8))) (fun hg => by simp only [gv_t hg]; exact rp_u8_eql rfl (machineF mach) (1 : UInt8) rfl rfl) ?_; simp only [N]
    refine wr (rp_pickO rfl (p := (!v88)) (q := ((machineF mach) == (1 : UInt8))) rfl rfl rfl) ?_; simp only [N]
    refine wpList_nil ?_
    refine wp_cond_split rfl (fun hc7 => ?_) (fun hc7 => ?_)
    · --T 7
     refine wp_exit ?_
     refine wp_region_lit ?_; refine wr (rp_int_add rfl ((b57 : Nat) : Int) (1 : Int) rfl rfl (by omega)) ?_; simp only [N]
     refine wmv (iv (((b57 : Nat) : Int) + (1 : Int))) ?_; simp only [N]
     refine wpList_nil ?_
     show ∃ n', n' < _ ∧ _
     refine ⟨_, ?_, (b57 + 1), v96.1, (by kernel_rfl), H, (by first | omega | simp [-List.reduceReplicate] <;> omega | simp [*, -List.reduceReplicate] <;> omega), (by omega), (hFv96.trans ((bf hc6).trans (bt hc7))).trans (congrFun hrb _), rfl⟩
     omega
    · --F 7
     have hc7N17 : (machineF mach).toNat ≠ 1 := u8_ne (orr hc7)
     refine wp_skip ?_
     refine wp_seq ?_; refine wp_region_lit ?_; refine wmv (iv ((playF p (picks.l.take (min picks.l.length 60))).2.1.getD b57 default)) ?_; simp only [N]
     refine wr (rp_int_to_u8 rfl Tryz.underlying3 Tryz.underlying5 ((playF p (picks.l.take (min picks.l.length 60))).2.1.getD b57 default) rfl) ?_; simp only [N]
     refine wr (rp_build rfl (vs := [(0, bv (UInt8.ofNat (((playF p (picks.l.take (min picks.l.length 60))).2.1.getD b57 default) % 256).toNat)), (1, .bool true)]) rfl (cs := #[bv (UInt8.ofNat (((playF p (picks.l.take (min picks.l.length 60))).2.1.getD b57 default) % 256).toNat), .bool true, bv (0 : UInt8)]) (by kernel_rfl)) ?_; simp only [N]
     refine wl_alloc H rfl rfl zv50 ?_
     clear H; intro b5 w22 hnb5 H; dsimp only [Value.cells] at H
     simp only [N]
     refine wl_storeV H 0 rfl rfl rfl rfl (#[bv (UInt8.ofNat (((playF p (picks.l.take (min picks.l.length 60))).2.1.getD b57 default) % 256).toNat), .bool true, bv (0 : UInt8)]) rfl (by simp [Value.oneCell']) sz50 ?_
     clear H; intro w23 H; simp only [M] at H
     simp only [N]
     refine wpList_nil ?_
     refine wp_seq ?_; refine wp_cutX (fun a' w' => ∃ (fb5_2 : UInt8), a' = ⟨#[(ua 0), bv mach, picks.val, .pointer (some ⟨b1, 0, none⟩), undef, undef, (uc 6), bv (machineF mach), .pointer (some ⟨bd8, 0, none⟩), (ub 9), iv v96.2, .pointer (some ⟨b2, 0, none⟩), (ub 12), undef, (tq a' 14), (uc 15), undef, (uc 17), .bool v88, .pointer (some ⟨b5, 0, none⟩), bv mach, (ua 21), (ua 22), (ua 23), (ua 24), (ua 25), (ua 26), (ua 27), (ua 28), (ua 29), (ua 30), (ua 31), (ua 32), (ub 33), (ub 34), (ub 35), (ub 36), (ub 37), (ub 38), (ub 39), (ub 40), (ub 41), (ub 42), (ub 43), undef, undef, undef, undef, undef, undef, undef, undef, undef, undef, undef, (⟨xd29_.1, xd29_.2, (playF p (picks.l.take (min picks.l.length 60))).2.1⟩ : Sl Int).val, iv (((playF p (picks.l.take (min picks.l.length 60))).2.1.length : Nat) : Int), iv ((b57 : Nat) : Int), (uc 58), (uc 59), (uc 60), (uc 61), (uc 62), (uc 63), (uc 64), (uc 65), (uc 66), (uc 67), (uc 68), (uc 69), (uc 70), (uc 71), (uc 72), (uc 73), (uc 74), (uc 75), (uc 76), (uc 77), (uc 78), (uc 79), (uc 80), (uc 81), (uc 82), (uc 83), (uc 84), (tq a' 85), (tq a' 86), (tq a' 87), .bool v88, (tq a' 89), (tq a' 90), (tq a' 91), (tq a' 92), (tq a' 93), (tq a' 94), (tq a' 95), (tq a' 96), (tq a' 97), iv v96.2, iv v96.2, (tq a' 100), .bool v88, (tq a' 102), (tq a' 103), (tq a' 104), (tq a' 105), (tq a' 106), (tq a' 107), (tq a' 108), (tq a' 109), (tq a' 110), (tq a' 111), (tq a' 112), (tq a' 113), (tq a' 114), (tq a' 115), (tq a' 116), (tq a' 117), (tq a' 118), (ub 119), (ub 120), (ub 121), (ub 122), (ub 123), (ub 124), (ub 125), (ub 126), (ub 127), (ub 128), (ub 129), undef, undef, undef, undef, undef, undef, undef, undef, undef, undef, undef, undef, undef], []⟩ ∧ Own w [] [SlIn 1 eInt (⟨xd29_.1, xd29_.2, (playF p (picks.l.take (min picks.l.length 60))).2.1⟩ : Sl Int), IsProg p, SlIn 1 eByte picks, Glob] [.blk b5 (.cells #[bv (UInt8.ofNat (((playF p (picks.l.take (min picks.l.length 60))).2.1.getD b57 default) % 256).toNat), .bool true, bv fb5_2] 50 (0, 0)), .blk b2 (.cells (enc v96.1).toArray 41 (0, 0)), .blk bd8 (.cells (enc (playF p (picks.l.take (min picks.l.length 60))).1).toArray 64 (0, 0)), .blk b1 (.cells (p.cells).toArray 29 (0, 0))] w' ∧ (strongF p mach picks.l) = strongF_f p mach picks.l b57 v96 rb fb5_2) ?_ ?_
     ·
      refine wp_seq ?_; refine wp_region_lit ?_; refine wmv (bv (machineF mach)) ?_; simp only [N]
      refine wr (rp_u8_eql rfl (machineF mach) (3 : UInt8) rfl rfl) ?_; simp only [N]
      refine wpList_nil ?_
      refine wp_cond_split rfl (fun hc8 => ?_) (fun hc8 => ?_)
      · --T 8
       have hc8N18 : (machineF mach).toNat = 3 := u8_eq hc8
       refine wp_region_lit ?_; refine wmv (iv ((playF p (picks.l.take (min picks.l.length 60))).2.1.getD b57 default)) ?_; simp only [N]
       refine wr (rp_fieldAddr rfl Tryz.underlying41 rfl 42 rfl sz38 rfl 42 rfl) ?_; simp only [N]
       refine wr (rp_indexAddr_arrI rfl Tryz.underlying38 sz37 rfl ((playF p (picks.l.take (min picks.l.length 60))).2.1.getD b57 default) (by omega) rfl (by omega) (42 + ((playF p (picks.l.take (min picks.l.length 60))).2.1.getD b57 default).toNat * 24) (by omega)) ?_; simp only [N]
       refine wr (rp_indexAddr_arr rfl Tryz.underlying37 sz36 rfl 0 rfl (by omega) (42 + ((playF p (picks.l.take (min picks.l.length 60))).2.1.getD b57 default).toNat * 24) (by omega)) ?_; simp only [N]
       refine wr (rp_fieldAddr rfl Tryz.underlying36 rfl 0 rfl sz5 rfl (42 + ((playF p (picks.l.take (min picks.l.length 60))).2.1.getD b57 default).toNat * 24) (by omega)) ?_; simp only [N]
       refine wr (rp_load1A H 1 rfl rfl rfl Tryz.underlying5 rfl (42 + ((playF p (picks.l.take (min picks.l.length 60))).2.1.getD b57 default).toNat * 24) rfl) ?_; simp only [N]
       refine wr (rp_fieldAddr rfl Tryz.underlying50 rfl 2 rfl sz5 rfl 2 rfl) ?_; simp only [N]
       refine wl_store1 H 0 rfl rfl rfl (cs := #[bv (UInt8.ofNat (((playF p (picks.l.take (min picks.l.length 60))).2.1.getD b57 default) % 256).toNat), .bool true, bv (0 : UInt8)]) rfl (v := bv (v96.1.getD (42 + ((playF p (picks.l.take (min picks.l.length 60))).2.1.getD b57 default).toNat * 24) 0)) rfl rfl sz5 (Nat.le_of_ble_eq_true rfl) ?_
       clear H; intro w24 H; simp only [Ms] at H
       simp only [N]
       refine wpList_nil ?_
       exact ⟨(v96.1.getD (42 + ((playF p (picks.l.take (min picks.l.length 60))).2.1.getD b57 default).toNat * 24) 0), (by kernel_rfl), H, hFv96.trans ((bf hc6).trans ((bf hc7).trans (bt hc8)))⟩
      · --F 8
       have hc8N19 : (machineF mach).toNat ≠ 3 := u8_ne hc8
       refine wp_skip ?_
       exact ⟨(0 : UInt8), (by kernel_rfl), H, hFv96.trans ((bf hc6).trans ((bf hc7).trans (bf hc8)))⟩
     clear H
     rintro a_ w25 ⟨fb5_2, ha_, H, hFf⟩
     obtain ⟨uf, hu_⟩ : ∃ uf : Nat → Value, a_ = ⟨#[(ua 0), bv mach, picks.val, .pointer (some ⟨b1, 0, none⟩), undef, undef, (uc 6), bv (machineF mach), .pointer (some ⟨bd8, 0, none⟩), (ub 9), iv v96.2, .pointer (some ⟨b2, 0, none⟩), (ub 12), undef, (uf 14), (uc 15), undef, (uc 17), .bool v88, .pointer (some ⟨b5, 0, none⟩), bv mach, (ua 21), (ua 22), (ua 23), (ua 24), (ua 25), (ua 26), (ua 27), (ua 28), (ua 29), (ua 30), (ua 31), (ua 32), (ub 33), (ub 34), (ub 35), (ub 36), (ub 37), (ub 38), (ub 39), (ub 40), (ub 41), (ub 42), (ub 43), undef, undef, undef, undef, undef, undef, undef, undef, undef, undef, undef, (⟨xd29_.1, xd29_.2, (playF p (picks.l.take (min picks.l.length 60))).2.1⟩ : Sl Int).val, iv (((playF p (picks.l.take (min picks.l.length 60))).2.1.length : Nat) : Int), iv ((b57 : Nat) : Int), (uc 58), (uc 59), (uc 60), (uc 61), (uc 62), (uc 63), (uc 64), (uc 65), (uc 66), (uc 67), (uc 68), (uc 69), (uc 70), (uc 71), (uc 72), (uc 73), (uc 74), (uc 75), (uc 76), (uc 77), (uc 78), (uc 79), (uc 80), (uc 81), (uc 82), (uc 83), (uc 84), (uf 85), (uf 86), (uf 87), .bool v88, (uf 89), (uf 90), (uf 91), (uf 92), (uf 93), (uf 94), (uf 95), (uf 96), (uf 97), iv v96.2, iv v96.2, (uf 100), .bool v88, (uf 102), (uf 103), (uf 104), (uf 105), (uf 106), (uf 107), (uf 108), (uf 109), (uf 110), (uf 111), (uf 112), (uf 113), (uf 114), (uf 115), (uf 116), (uf 117), (uf 118), (ub 119), (ub 120), (ub 121), (ub 122), (ub 123), (ub 124), (ub 125), (ub 126), (ub 127), (ub 128), (ub 129), undef, undef, undef, undef, undef, undef, undef, undef, undef, undef, undef, undef, undef], []⟩ := ⟨fun n => tq a_ n, ha_⟩
     clear ha_; subst hu_
     refine wp_seq ?_; refine wp_region_lit ?_; refine wr (rp_loadN H 3 rfl rfl rfl Tryz.underlying29 rfl sz29 (Nat.le_of_ble_eq_true rfl) (cs' := p.cells) rfl) ?_; simp only [N]
     refine wmv (bv (machineF mach)) ?_; simp only [N]
     refine wr (rp_loadWA H 1 rfl rfl rfl Tryz.underlying41 rfl sz41 rfl) ?_; simp only [N]
     refine wr (rp_loadN H 0 rfl rfl rfl Tryz.underlying50 rfl sz50 (Nat.le_of_ble_eq_true rfl) (cs' := [bv (UInt8.ofNat (((playF p (picks.l.take (min picks.l.length 60))).2.1.getD b57 default) % 256).toNat), .bool true, bv fb5_2]) rfl) ?_; simp only [N]
     refine wl_callE H rfl (rc_go Tryz.func13 (by kernel_rfl) rfl) (bMoveF_spec p (machineF mach) v96.1 (⟨(UInt8.ofNat (((playF p (picks.l.take (min picks.l.length 60))).2.1.getD b57 default) % 256).toNat), true, fb5_2⟩ : Pass) (by first | omega | simp [-List.reduceReplicate] <;> omega | simp [*, -List.reduceReplicate] <;> omega) _ (H.ro_at 1 rfl) (H.ro_at 3 rfl)) ?_
     clear H; intro w26 H
     simp only [N]
     generalize hv124 : (bMoveF p (machineF mach) v96.1 (⟨(UInt8.ofNat (((playF p (picks.l.take (min picks.l.length 60))).2.1.getD b57 default) % 256).toNat), true, fb5_2⟩ : Pass)) = v124
     have hFv124 : (strongF p mach picks.l) = strongF_v124 b57 rb v124 := by first | (rw [← hv124]; exact hFf) | exact hFf
     have hlv124 : (v124.1).length = 142 := by rw [← hv124]; first | omega | simp [-List.reduceReplicate] <;> omega | simp [*, -List.reduceReplicate] <;> omega
     refine wmv (.tuple #[.agg (enc v124.1).toArray, iv v124.2]) ?_; simp only [N]
     refine wr (rp_extract rfl rfl (v := .agg (enc v124.1).toArray) rfl) ?_; simp only [N]
     refine wr (rp_extract rfl rfl (v := iv v124.2) rfl) ?_; simp only [N]
     refine wl_storeA H 1 rfl rfl rfl rfl v124.1 rfl sz41 ?_
     clear H; intro w27 H; simp only [M] at H
     simp only [N]
     refine wasg (iv v124.2) ?_; simp only [N]
     refine wpList_nil ?_
     refine wp_seq ?_; refine wp_region_lit ?_; refine wmv (iv v124.2) ?_; simp only [N]
     refine wr (rp_int_neq rfl v124.2 (0 : Int) rfl rfl) ?_; simp only [N]
     refine wpList_nil ?_
     refine wp_cond_split rfl (fun hc9 => ?_) (fun hc9 => ?_)
     · --T 9
      have hc9N20 : v124.2 ≠ (0 : Int) := (by simpa using hc9)
      refine wp_seq ?_; refine wp_region_lit ?_; refine wasg (.bool false) ?_; simp only [N]
      refine wpList_nil ?_
      refine wp_ret ?_
      try simp only [Exit.inBlock, Exit.then, cutP]
      refine bodyPost_ret (results1 rfl (rv_tmp rfl)) rfl ?_
      have hF : (strongF p mach picks.l) = false := hFv124.trans (bt hc9)
      rw [hF]
      exact ⟨rfl, H.ext⟩
     · --F 9
      have hc9N21 : v124.2 = (0 : Int) := (by simpa using hc9)
      refine wp_skip ?_
      refine wp_region_lit ?_; refine wr (rp_int_add rfl ((b57 : Nat) : Int) (1 : Int) rfl rfl (by omega)) ?_; simp only [N]
      refine wmv (iv (((b57 : Nat) : Int) + (1 : Int))) ?_; simp only [N]
      refine wpList_nil ?_
      replace H := H.dropNew 0 rfl (foot_blk hnb5); simp only [m5, m6] at H
      show ∃ n', n' < _ ∧ _
      refine ⟨_, ?_, (b57 + 1), v124.1, (by kernel_rfl), H, (by first | omega | simp [-List.reduceReplicate] <;> omega | simp [*, -List.reduceReplicate] <;> omega), (by omega), (hFv124.trans (bf hc9)).trans (congrFun hrb _), rfl⟩
      omega
  · --F 2
   have hc2N22 : (((playF p (picks.l.take (min picks.l.length 60))).2.1.length : Nat) : Int) ≤ ((b57 : Nat) : Int) := (by simpa using hc2)
   have hFb2 := hFb.trans (loopL_end (show (playF p (picks.l.take (min picks.l.length 60))).2.1.length ≤ b57 by omega))
   refine wp_exit ?_
   refine wp_seq ?_; refine wp_region_own H (by kernel_rfl) (by kernel_rfl) ?_
   refine wq_run rfl (fun w H => rp_loadN H 2 rfl rfl rfl Tryz.underlying29 rfl sz29 (Nat.le_of_ble_eq_true rfl) (cs' := p.cells) rfl) ?_; simp only [N]
   refine wq_run rfl (fun w H => rp_move rfl (v := bv (machineF mach)) rfl) ?_; simp only [N]
   refine wq_run rfl (fun w H => rp_loadWA H 0 rfl rfl rfl Tryz.underlying41 rfl sz41 rfl) ?_; simp only [N]
   refine wq_call rfl (rc_go Tryz.func19 (by kernel_rfl) rfl) (fun w H => bOverF_spec p (machineF mach) bb2 (by first | omega | simp [-List.reduceReplicate] <;> omega | simp [*, -List.reduceReplicate] <;> omega) _ (H.ro_at 1 rfl) (H.ro_at 3 rfl)) ?_; simp only [N]
   generalize hv133 : (bOverF p (machineF mach) bb2) = v133
   have hFv133 : (strongF p mach picks.l) = strongF_v133 p picks.l bb2 v133 := by first | (rw [← hv133]; exact hFb2) | exact hFb2
   refine wq_run rfl (fun w H => rp_move rfl (v := .bool v133) rfl) ?_; simp only [N]
   refine wq_g (wn_t rfl rfl) (v := .agg (enc bb2).toArray) (fun hg w H => rp_loadWA H 0 rfl rfl rfl Tryz.underlying41 rfl sz41 rfl) ?_; simp only [N]
   refine wq_gE (wn_t rfl rfl) (fun hg => fun w => by simp only [gv_t hg]; exact rc_go Tryz.func20 (by kernel_rfl) rfl w) (v := .agg (enc (finalF bb2)).toArray) (fun hg w H => finalF_spec bb2 (by first | omega | simp [-List.reduceReplicate] <;> omega | simp [*, -List.reduceReplicate] <;> omega) _ ) ?_; simp only [N]
   refine wq_g (wn_t rfl rfl) (v := .agg (enc (playF p (picks.l.take (min picks.l.length 60))).1).toArray) (fun hg w H => rp_loadWA H 1 rfl rfl rfl Tryz.underlying64 rfl sz64 rfl) ?_; simp only [N]
   refine wq_g (wn_t rfl rfl) (v := .bool (decide ((finalF bb2) = (playF p (picks.l.take (min picks.l.length 60))).1))) (fun hg w H => by simp only [gv_t hg]; exact rp_eql_leafs rfl 6 (by decide) (by kernel_rfl) (by kernel_rfl) (ks := (List.replicate 38 (.int .u8))) (by kernel_rfl) (xs := enc (finalF bb2)) (ys := enc (playF p (picks.l.take (min picks.l.length 60))).1) rfl rfl (formed_enc Tryz.underlying64 rfl sz64 (by first | omega | simp [-List.reduceReplicate] <;> omega | simp [*, -List.reduceReplicate] <;> omega)) (formed_enc Tryz.underlying64 rfl sz64 (by first | omega | simp [-List.reduceReplicate] <;> omega | simp [*, -List.reduceReplicate] <;> omega)) (fits_enc (by first | omega | simp [-List.reduceReplicate] <;> omega | simp [*, -List.reduceReplicate] <;> omega)) (fits_enc (by first | omega | simp [-List.reduceReplicate] <;> omega | simp [*, -List.reduceReplicate] <;> omega)) (r := (decide ((finalF bb2) = (playF p (picks.l.take (min picks.l.length 60))).1))) (by exact enc_iff _ _)) ?_; simp only [N]
   refine wq_run rfl (fun w H => rp_pickA rfl (p := v133) (q := (decide ((finalF bb2) = (playF p (picks.l.take (min picks.l.length 60))).1))) rfl rfl rfl) ?_; simp only [N]
   refine wq_run rfl (fun w H => rp_move rfl (v := .bool (v133 && (decide ((finalF bb2) = (playF p (picks.l.take (min picks.l.length 60))).1)))) rfl) ?_; simp only [N]
   refine wq_gE (wn_t rfl rfl) (fun hg => rc_go Tryz.func12 (by kernel_rfl) rfl) (v := .bool true) (fun hg w H => awakeB_spec' _ (H.ro_at 3 rfl)) ?_; simp only [N]
   refine wq_run rfl (fun w H => rp_pickA rfl (p := (v133 && (decide ((finalF bb2) = (playF p (picks.l.take (min picks.l.length 60))).1)))) (q := true) rfl rfl rfl) ?_; simp only [N]
   refine wq_run rfl (fun w H => rp_assign rfl (v := .bool ((v133 && (decide ((finalF bb2) = (playF p (picks.l.take (min picks.l.length 60))).1))) && true)) rfl) ?_; simp only [N]
   refine wq_nil ?_
   clear H; intro w28 H
   refine wp_ret ?_
   try simp only [Exit.inBlock, Exit.then, cutP]
   refine bodyPost_ret (results1 rfl (rv_tmp rfl)) rfl ?_
   have hF : (strongF p mach picks.l) = ((v133 && (decide ((finalF bb2) = (playF p (picks.l.take (min picks.l.length 60))).1))) && true) := hFv133
   rw [hF]
   exact ⟨rfl, H.ext⟩

end Go.Proofs.YtimonjemjhecoaaGreatDoor
