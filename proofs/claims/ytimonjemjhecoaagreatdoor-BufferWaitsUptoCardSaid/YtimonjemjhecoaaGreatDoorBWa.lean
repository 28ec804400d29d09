/- Walks, printed by a program of this repository (wip/tool). -/
import Derived.Test.YtimonjemjhecoaaGreatDoorLB2
import Derived.Test.YtimonjemjhecoaaGreatDoorWaB
namespace Go.Proofs.YtimonjemjhecoaaGreatDoor
open Go.RowKit
open Go
attribute [local irreducible] wpList wpQuiet wpX Code.wp
set_option maxHeartbeats 1000000
set_option maxRecDepth 100000
set_option linter.unusedSimpArgs false
set_option linter.unusedVariables false

def waitsF_b (xrb : (Sl Ins)) (rb : Nat → Bool) : Nat → Bool := fun s_ => match s_ with | b13 => rb (b13 + xrb.l.length)
def waitsF_f (d87 : Nat) (xrf : Pass) (rf : (Bool × Bool) → Bool) : (Bool × Bool) → Bool := fun s_ => match s_ with | (f20, f21) => rf ((f20 || ((((xrf.thread).toNat : Int) == ((d87 : Nat) : Int)) && (!xrf.drain))), (f21 || ((((xrf.thread).toNat : Int) == ((d87 : Nat) : Int)) && xrf.drain)))
def waitsF_fk (p : Prog) (cb2 : List UInt8) (d87 : Nat) (rd : Nat → Bool) : (Bool × Bool) → Bool := fun s_ => match s_ with | (f20, f21) => bif (((f21 != (decide ((0 : UInt8) < (cb2.getD (138 + d87) 0)))) || (((decide (((cb2.getD (d87 * 9) 0).toNat : Int) < (((p.threads.l.getD d87 default).l.length : Nat) : Int))) && (!f20)) && (!f21))) || ((decide ((((p.threads.l.getD d87 default).l.length : Nat) : Int) ≤ ((cb2.getD (d87 * 9) 0).toNat : Int))) && f20)) then false else (bif (f20 && (decide ((0 : UInt8) < (cb2.getD (138 + d87) 0)))) then (bif (((decide ((4 : UInt8) ≤ ((p.threads.l.getD d87 default).l.getD ((cb2.getD (d87 * 9) 0).toNat) default).op)) && (decide (((p.threads.l.getD d87 default).l.getD ((cb2.getD (d87 * 9) 0).toNat) default).op ≤ (6 : UInt8)))) || ((((p.threads.l.getD d87 default).l.getD ((cb2.getD (d87 * 9) 0).toNat) default).op == (7 : UInt8)) && (((p.threads.l.getD d87 default).l.getD ((cb2.getD (d87 * 9) 0).toNat) default).mode == (3 : UInt8)))) then false else (rd (d87 + 1))) else (rd (d87 + 1)))
def waitsF_d (p : Prog) (mach : UInt8) (cb2 : List UInt8) (xrd : (Sl Ins)) (rd : Nat → Bool) : Nat → Bool := fun s_ => match s_ with | d87 => loopL (waitsF_f d87) (waitsF_fk p cb2 d87 rd) (bMovesF p (machineF mach) cb2) (false, false)
def waitsF_v206 (p : Prog) (mach : UInt8) (c76 : Nat) (rc : (Nat × (List UInt8)) → Bool) (v206 : (List UInt8) × Int) : Bool :=
  bif ((v206.2 != (0 : Int)) || (!(bRightF p (machineF mach) v206.1))) then false else (rc ((c76 + 1), v206.1))
def waitsF_dk (p : Prog) (mach : UInt8) (picks : List UInt8) (c76 : Nat) (cb2 : List UInt8) (rc : (Nat × (List UInt8)) → Bool) : Nat → Bool := fun s_ => match s_ with | d87 => waitsF_v206 p mach c76 rc (bMoveF p (machineF mach) cb2 ((bPlayF p (machineF mach) (picks.take (min picks.length 100))).2.1.getD c76 default))
def waitsF_c (p : Prog) (mach : UInt8) (picks : List UInt8) (xrc : Pass) (rc : (Nat × (List UInt8)) → Bool) : (Nat × (List UInt8)) → Bool := fun s_ => match s_ with | (c76, cb2) => loopL (waitsF_d p mach cb2) (waitsF_dk p mach picks c76 cb2 rc) p.threads.l 0
def waitsF_ck (p : Prog) (mach : UInt8) (picks : List UInt8) (b13 : Nat) : (Nat × (List UInt8)) → Bool := fun s_ => match s_ with | (c76, cb2) => ((((decide ((((bPlayF p (machineF mach) (picks.take (min picks.length 100))).2.1.length : Nat) : Int) ≤ ((2 : Int) * ((b13 : Nat) : Int)))) && (bOverF p (machineF mach) cb2)) && (decide (((cb2.drop 138).take 4) = (List.replicate 4 (0 : UInt8))))) && true)
def waitsF_bk (p : Prog) (mach : UInt8) (picks : List UInt8) : Nat → Bool := fun s_ => match s_ with | b13 => loopL (waitsF_c p mach picks) (waitsF_ck p mach picks b13) ((bPlayF p (machineF mach) (picks.take (min picks.length 100))).2.1) (0, (startF p).1)
def waitsF_a (p : Prog) (mach : UInt8) (picks : List UInt8) : Bool :=
  bif (((bPlayF p (machineF mach) (picks.take (min picks.length 100))).2.2 != (0 : Int)) || ((startF p).2 != (0 : Int))) then ((((bPlayF p (machineF mach) (picks.take (min picks.length 100))).2.2 == (startF p).2) && ((rightF p) != (0 : Int))) && true) else (loopL waitsF_b (waitsF_bk p mach picks) p.threads.l 0)
def waitsF (p : Prog) (mach : UInt8) (picks : List UInt8) : Bool :=
  waitsF_a p mach picks


theorem waitsF_spec (p : Prog) (mach : UInt8) (picks : Sl UInt8) (w : World) (hp : (IsProg p) w) (hpicks : (SlIn 1 eByte picks) w) (hg_ : Glob w) :
    Calls Tryz.prog 6 #[.agg p.cells.toArray, bv mach, picks.val] w fun e w' => e = .returned (.bool (waitsF p mach picks.l)) ∧ Ext w w' := by
 have H := Own.start_ro w [IsProg p, SlIn 1 eByte picks, Glob] (List.forall_mem_cons.2 ⟨fun w' hw => hp.keep hw, List.forall_mem_cons.2 ⟨fun w' hw => hpicks.keep hw, List.forall_mem_cons.2 ⟨fun w' hw => hg_.keep hw, fun _ h => by cases h⟩⟩⟩)
 have hcp1 := hp.locs.2.2
 have hcp2 := hp.init.2.2
 have hcp3 := hp.threads.2.2
 have hcpicks := hpicks.2.2
 go_enter Tryz.func6, Tryz.ntmps6
 refine wp_seq ?_; refine wp_region_lit ?_; refine wl_box H rfl rfl (v := .agg (p.cells).toArray) rfl ?_
 clear H; intro b1 w1 hnb1 H; dsimp only [Value.cells] at H
 simp only [N]
 refine wasg (.bool false) ?_; simp only [N]
 refine wpList_nil ?_
 refine wp_seq ?_; refine wp_region_lit ?_; refine wmv (bv mach) ?_; simp only [N]
 refine wl_callE H rfl (rc_go Tryz.func21 (by kernel_rfl) rfl) (machineF_spec mach _ ) ?_
 clear H; intro w2 H
 simp only [N]
 refine wasg (bv (machineF mach)) ?_; simp only [N]
 refine wpList_nil ?_
 refine wp_seq ?_; refine wp_cutX (fun a' w' => ∃  (bd8 : Nat) (xd36_ : (Option Addr × Nat)), a' = ⟨#[(tq a' 0), bv mach, picks.val, .pointer (some ⟨b1, 0, none⟩), undef, undef, (tq a' 6), bv (machineF mach), (tq a' 8), (⟨xd36_.1, xd36_.2, (bPlayF p (machineF mach) (picks.l.take (min picks.l.length 100))).2.1⟩ : Sl Pass).val, iv (bPlayF p (machineF mach) (picks.l.take (min picks.l.length 100))).2.2, undef, undef, undef, undef, undef, undef, undef, undef, undef, undef, undef, undef, undef, undef, undef, bv mach, (tq a' 27), (tq a' 28), (tq a' 29), (tq a' 30), (tq a' 31), (tq a' 32), (tq a' 33), (tq a' 34), (tq a' 35), (tq a' 36), (tq a' 37), (tq a' 38), (tq a' 39), undef, undef, undef, undef, undef, undef, undef, undef, undef, undef, undef, undef, undef, undef, undef, undef, undef, undef, undef, undef, undef, undef, undef, undef, undef, undef, undef, undef, undef, undef, undef, undef, undef, undef, undef, undef, undef, undef, undef, undef, undef, undef, undef, undef, undef, undef, undef, undef, undef, undef, undef, undef, undef, undef, undef, undef, undef, undef, undef, undef, undef, undef, undef, undef, undef, undef, undef, undef, undef, undef, undef, undef, undef, undef, undef, undef, undef, undef, undef, undef, undef, undef, undef, undef, undef, undef, undef, undef, undef, undef, undef, undef, undef, undef, undef, undef, undef, undef, undef, undef, undef, undef, undef, undef, undef, undef, undef, undef, undef, undef, undef, undef, undef, undef, undef, undef, undef, undef, undef, undef, undef, undef, undef, undef, undef, undef, undef, undef, undef, undef, undef, undef, undef, undef, undef, undef, undef, undef, undef, undef, undef, undef, undef, undef, undef, undef, undef, undef, undef, undef, undef, undef, undef, undef, undef, undef, undef, undef, undef, undef, undef, undef, undef, undef, undef, undef, undef, undef, undef, undef, undef, undef, undef, undef, undef, undef, undef, undef, undef, undef, undef, undef, undef, undef, undef, undef, undef, undef, undef, undef, undef, undef, undef, undef, undef, undef, undef, undef, undef], []⟩ ∧ Own w [] [SlIn 3 Pass.cells (⟨xd36_.1, xd36_.2, (bPlayF p (machineF mach) (picks.l.take (min picks.l.length 100))).2.1⟩ : Sl Pass), IsProg p, SlIn 1 eByte picks, Glob] [.blk bd8 (.cells (enc (bPlayF p (machineF mach) (picks.l.take (min picks.l.length 100))).1).toArray 64 (0, 0)), .blk b1 (.cells (p.cells).toArray 29 (0, 0))] w' ∧ w.heap.size ≤ bd8 ∧ (waitsF p mach picks.l) = waitsF_a p mach picks.l) ?_ ?_
 ·
  refine wp_region_mix 16 H (by kernel_rfl) ?_
  refine wxl_tk 0 rfl (xy_run rfl (fun w H => rp_loadN H 0 rfl rfl rfl Tryz.underlying29 rfl sz29 (Nat.le_of_ble_eq_true rfl) (cs' := p.cells) rfl)) ?_; simp only [N]
  refine wxl_tk 1 rfl (xy_run rfl (fun w H => rp_move rfl (v := bv (machineF mach)) rfl)) ?_; simp only [N]
  refine wxl_tk 2 rfl (xy_run rfl (fun w H => rp_move rfl (v := picks.val) rfl)) ?_; simp only [N]
  refine wxl_tk 3 rfl (xy_run rfl (fun w H => rp_move rfl (v := picks.val) rfl)) ?_; simp only [N]
  refine wxl_tk 4 rfl (xy_run rfl (fun w H => rp_len_sl (s := picks) Tryz.underlying23 rfl)) ?_; simp only [N]
  refine wxl_tk 5 rfl (xy_run rfl (fun w H => rp_vconv (rp_min2 rfl ((picks.l.length : Nat) : Int) (100 : Int) rfl rfl) (congrArg (Value.int .i64) (show min ((picks.l.length : Nat) : Int) (100 : Int) = (((min picks.l.length 100) : Nat) : Int) by omega)))) ?_; simp only [N]
  have hsl35 : (picks.l.take (min picks.l.length 100)).length ≤ 140737488355328 := by simp only [List.length_take, List.length_drop]; omega
  refine wxl_tk 6 rfl (xy_run rfl (fun w H => rp_slice_slh (H.ro_at 1 rfl) rfl Tryz.underlying23 sz5 rfl (min picks.l.length 100) rfl (by omega))) ?_; simp only [N]
  refine wxl_each2 7 12 (by kernel_rfl) ?_ ?_
  ·
   refine xs_fresh rfl rfl rfl (rc_go Tryz.func17 (by kernel_rfl) rfl) (fun w H => bPlayF_spec p (machineF mach) (⟨picks.ad, picks.cap, picks.l.take (min picks.l.length 100)⟩ : Sl UInt8) _ (H.ro_at 0 rfl) (SlIn.take (H.ro_at 1 rfl) (min picks.l.length 100) (by omega)) (H.ro_at 2 rfl)) ?_
   intro xd36_
   simp only [N, M, Value.cells]
   refine wxl_tk 8 rfl (xy_run rfl (fun w H => rp_move rfl (v := .tuple #[.agg (enc (bPlayF p (machineF mach) (picks.l.take (min picks.l.length 100))).1).toArray, (⟨xd36_.1, xd36_.2, (bPlayF p (machineF mach) (picks.l.take (min picks.l.length 100))).2.1⟩ : Sl Pass).val, iv (bPlayF p (machineF mach) (picks.l.take (min picks.l.length 100))).2.2]) rfl)) ?_; simp only [N]
   refine wxl_tk 9 rfl (xy_run rfl (fun w H => rp_extract rfl rfl (v := .agg (enc (bPlayF p (machineF mach) (picks.l.take (min picks.l.length 100))).1).toArray) rfl)) ?_; simp only [N]
   refine wxl_tk 10 rfl (xy_run rfl (fun w H => rp_extract rfl rfl (v := (⟨xd36_.1, xd36_.2, (bPlayF p (machineF mach) (picks.l.take (min picks.l.length 100))).2.1⟩ : Sl Pass).val) rfl)) ?_; simp only [N]
   refine wxl_tk 11 rfl (xy_run rfl (fun w H => rp_extract rfl rfl (v := iv (bPlayF p (machineF mach) (picks.l.take (min picks.l.length 100))).2.2) rfl)) ?_; simp only [N]
   refine wxl_alloc 12 rfl rfl (by kernel_rfl) rfl (xa_alloc rfl zv64) ?_
   intro bd8
   simp only [N, M, Value.cells]
   refine wxl_store 13 0 rfl rfl (by kernel_rfl) rfl rfl (xs_whole rfl rfl (vs := (enc (bPlayF p (machineF mach) (picks.l.take (min picks.l.length 100))).1).toArray) rfl (fun v hv => enc_one v (by simpa using hv)) (by first | exact sz64 | (rw [sz64]; congr 1; first | omega | simp [-List.reduceReplicate] <;> omega | simp [*, -List.reduceReplicate] <;> omega)) (by first | rfl | first | omega | simp [-List.reduceReplicate] <;> omega | simp [*, -List.reduceReplicate] <;> omega)) ?_
   simp only [N, M, Value.cells]
   refine wxl_tk 14 rfl (xy_run rfl (fun w H => rp_assign rfl (v := (⟨xd36_.1, xd36_.2, (bPlayF p (machineF mach) (picks.l.take (min picks.l.length 100))).2.1⟩ : Sl Pass).val) rfl)) ?_; simp only [N]
   refine wxl_tk 15 rfl (xy_run rfl (fun w H => rp_assign rfl (v := iv (bPlayF p (machineF mach) (picks.l.take (min picks.l.length 100))).2.2) rfl)) ?_; simp only [N]
   refine wpX_done (by kernel_rfl) ?_ _
   clear H; intro w3 H; simp only [List.cons_append, List.nil_append] at H
   exact ⟨bd8, xd36_, (by kernel_rfl), H, (H.newrow 0 rfl _ rfl), rfl⟩
  ·
   refine xs_allocR rfl rfl rfl (xa_alloc rfl zv64) ?_
   intro bd8
   simp only [N, M, Value.cells]
   refine wxl_fresh 7 rfl rfl (by kernel_rfl) rfl (rc_go Tryz.func17 (by kernel_rfl) rfl) (fun w H => bPlayF_spec p (machineF mach) (⟨picks.ad, picks.cap, picks.l.take (min picks.l.length 100)⟩ : Sl UInt8) _ (H.ro_at 0 rfl) (SlIn.take (H.ro_at 1 rfl) (min picks.l.length 100) (by omega)) (H.ro_at 2 rfl)) ?_
   intro xd36_
   simp only [N, M, Value.cells]
   refine wxl_tk 8 rfl (xy_run rfl (fun w H => rp_move rfl (v := .tuple #[.agg (enc (bPlayF p (machineF mach) (picks.l.take (min picks.l.length 100))).1).toArray, (⟨xd36_.1, xd36_.2, (bPlayF p (machineF mach) (picks.l.take (min picks.l.length 100))).2.1⟩ : Sl Pass).val, iv (bPlayF p (machineF mach) (picks.l.take (min picks.l.length 100))).2.2]) rfl)) ?_; simp only [N]
   refine wxl_tk 9 rfl (xy_run rfl (fun w H => rp_extract rfl rfl (v := .agg (enc (bPlayF p (machineF mach) (picks.l.take (min picks.l.length 100))).1).toArray) rfl)) ?_; simp only [N]
   refine wxl_tk 10 rfl (xy_run rfl (fun w H => rp_extract rfl rfl (v := (⟨xd36_.1, xd36_.2, (bPlayF p (machineF mach) (picks.l.take (min picks.l.length 100))).2.1⟩ : Sl Pass).val) rfl)) ?_; simp only [N]
   refine wxl_tk 11 rfl (xy_run rfl (fun w H => rp_extract rfl rfl (v := iv (bPlayF p (machineF mach) (picks.l.take (min picks.l.length 100))).2.2) rfl)) ?_; simp only [N]
   refine wxl_store 13 0 rfl rfl (by kernel_rfl) rfl rfl (xs_whole rfl rfl (vs := (enc (bPlayF p (machineF mach) (picks.l.take (min picks.l.length 100))).1).toArray) rfl (fun v hv => enc_one v (by simpa using hv)) (by first | exact sz64 | (rw [sz64]; congr 1; first | omega | simp [-List.reduceReplicate] <;> omega | simp [*, -List.reduceReplicate] <;> omega)) (by first | rfl | first | omega | simp [-List.reduceReplicate] <;> omega | simp [*, -List.reduceReplicate] <;> omega)) ?_
   simp only [N, M, Value.cells]
   refine wxl_tk 14 rfl (xy_run rfl (fun w H => rp_assign rfl (v := (⟨xd36_.1, xd36_.2, (bPlayF p (machineF mach) (picks.l.take (min picks.l.length 100))).2.1⟩ : Sl Pass).val) rfl)) ?_; simp only [N]
   refine wxl_tk 15 rfl (xy_run rfl (fun w H => rp_assign rfl (v := iv (bPlayF p (machineF mach) (picks.l.take (min picks.l.length 100))).2.2) rfl)) ?_; simp only [N]
   refine wpX_done (by kernel_rfl) ?_ _
   clear H; intro w4 H; simp only [List.cons_append, List.nil_append] at H
   exact ⟨bd8, xd36_, (by kernel_rfl), H, (H.newrow 0 rfl _ rfl), rfl⟩
 clear H
 rintro a_ w5 ⟨bd8, xd36_, ha_, H, hnbd8, hFa⟩
 obtain ⟨ua, hu_⟩ : ∃ ua : Nat → Value, a_ = ⟨#[(ua 0), bv mach, picks.val, .pointer (some ⟨b1, 0, none⟩), undef, undef, (ua 6), bv (machineF mach), (ua 8), (⟨xd36_.1, xd36_.2, (bPlayF p (machineF mach) (picks.l.take (min picks.l.length 100))).2.1⟩ : Sl Pass).val, iv (bPlayF p (machineF mach) (picks.l.take (min picks.l.length 100))).2.2, undef, undef, undef, undef, undef, undef, undef, undef, undef, undef, undef, undef, undef, undef, undef, bv mach, (ua 27), (ua 28), (ua 29), (ua 30), (ua 31), (ua 32), (ua 33), (ua 34), (ua 35), (ua 36), (ua 37), (ua 38), (ua 39), undef, undef, undef, undef, undef, undef, undef, undef, undef, undef, undef, undef, undef, undef, undef, undef, undef, undef, undef, undef, undef, undef, undef, undef, undef, undef, undef, undef, undef, undef, undef, undef, undef, undef, undef, undef, undef, undef, undef, undef, undef, undef, undef, undef, undef, undef, undef, undef, undef, undef, undef, undef, undef, undef, undef, undef, undef, undef, undef, undef, undef, undef, undef, undef, undef, undef, undef, undef, undef, undef, undef, undef, undef, undef, undef, undef, undef, undef, undef, undef, undef, undef, undef, undef, undef, undef, undef, undef, undef, undef, undef, undef, undef, undef, undef, undef, undef, undef, undef, undef, undef, undef, undef, undef, undef, undef, undef, undef, undef, undef, undef, undef, undef, undef, undef, undef, undef, undef, undef, undef, undef, undef, undef, undef, undef, undef, undef, undef, undef, undef, undef, undef, undef, undef, undef, undef, undef, undef, undef, undef, undef, undef, undef, undef, undef, undef, undef, undef, undef, undef, undef, undef, undef, undef, undef, undef, undef, undef, undef, undef, undef, undef, undef, undef, undef, undef, undef, undef, undef, undef, undef, undef, undef, undef, undef, undef, undef, undef, undef, undef, undef, undef, undef, undef, undef, undef, undef, undef, undef, undef, undef, undef, undef, undef, undef, undef, undef, undef, undef], []⟩ := ⟨fun n => tq a_ n, ha_⟩
 clear ha_; subst hu_
 refine wp_seq ?_; refine wp_region_lit ?_; refine wr (rp_loadN H 1 rfl rfl rfl Tryz.underlying29 rfl sz29 (Nat.le_of_ble_eq_true rfl) (cs' := p.cells) rfl) ?_; simp only [N]
 refine wl_callE H rfl (rc_go Tryz.func18 (by kernel_rfl) rfl) (startF_spec p _ (H.ro_at 1 rfl) (H.ro_at 3 rfl)) ?_
 clear H; intro w6 H
 simp only [N]
 refine wmv (.tuple #[.agg (enc (startF p).1).toArray, iv (startF p).2]) ?_; simp only [N]
 refine wr (rp_extract rfl rfl (v := .agg (enc (startF p).1).toArray) rfl) ?_; simp only [N]
 refine wr (rp_extract rfl rfl (v := iv (startF p).2) rfl) ?_; simp only [N]
 refine wl_alloc H rfl rfl zv41 ?_
 clear H; intro b2 w7 hnb2 H; dsimp only [Value.cells] at H
 simp only [N]
 simp only [enc_replicate] at H
 refine wl_storeA H 0 rfl rfl rfl rfl (startF p).1 rfl sz41 ?_
 clear H; intro w8 H; simp only [M] at H
 simp only [N]
 refine wasg (iv (startF p).2) ?_; simp only [N]
 refine wpList_nil ?_
 refine wp_seq ?_; refine wp_seq ?_; refine wp_region_lit ?_; refine wmv (iv (bPlayF p (machineF mach) (picks.l.take (min picks.l.length 100))).2.2) ?_; simp only [N]
 refine wr (rp_int_neq rfl (bPlayF p (machineF mach) (picks.l.take (min picks.l.length 100))).2.2 (0 : Int) rfl rfl) ?_; simp only [N]
 refine wmv (.bool ((bPlayF p (machineF mach) (picks.l.take (min picks.l.length 100))).2.2 != (0 : Int))) ?_; simp only [N]
 refine wl_g (wn_f rfl rfl) (v := iv (startF p).2) (fun hg => rp_move rfl (v := iv (startF p).2) rfl) ?_; simp only [N]
 refine wl_g (wn_f rfl rfl) (v := .bool ((startF p).2 != (0 : Int))) (fun hg => by have x2 : (bPlayF p (machineF mach) (picks.l.take (min picks.l.length 100))).2.2 = (0 : Int) := (by simpa using (notT hg)); exact (by simp only [gv_t hg]; exact rp_int_neq rfl (startF p).2 (0 : Int) rfl rfl)) ?_; simp only [N]
 refine wr (rp_pickO rfl (p := ((bPlayF p (machineF mach) (picks.l.take (min picks.l.length 100))).2.2 != (0 : Int))) (q := ((startF p).2 != (0 : Int))) rfl rfl rfl) ?_; simp only [N]
 refine wpList_nil ?_
 refine wp_cond_split rfl (fun hc1 => ?_) (fun hc1 => ?_)
 · --T 1
  refine wp_seq ?_; refine wp_region_lit ?_; refine wmv (iv (bPlayF p (machineF mach) (picks.l.take (min picks.l.length 100))).2.2) ?_; simp only [N]
  refine wmv (iv (startF p).2) ?_; simp only [N]
  refine wr (rp_int_eql rfl (bPlayF p (machineF mach) (picks.l.take (min picks.l.length 100))).2.2 (startF p).2 rfl rfl) ?_; simp only [N]
  refine wmv (.bool ((bPlayF p (machineF mach) (picks.l.take (min picks.l.length 100))).2.2 == (startF p).2)) ?_; simp only [N]
  refine wl_g (wn_t rfl rfl) (v := .agg (p.cells).toArray) (fun hg => rp_loadN H 2 rfl rfl rfl Tryz.underlying29 rfl sz29 (Nat.le_of_ble_eq_true rfl) (cs' := p.cells) rfl) ?_; simp only [N]
  refine wl_gE H (wn_t rfl rfl) (fun hg => fun w => by simp only [gv_t hg]; exact rc_go Tryz.func11 (by kernel_rfl) rfl w) (v := iv (rightF p)) (fun hg => by have x4 : (bPlayF p (machineF mach) (picks.l.take (min picks.l.length 100))).2.2 = (startF p).2 := (by simpa using hg); exact (rightF_spec p _ (H.ro_at 1 rfl) (H.ro_at 3 rfl))) ?_
  clear H; intro w9 H
  simp only [N]
  refine wl_g (wn_t rfl rfl) (v := .bool ((rightF p) != (0 : Int))) (fun hg => by have x5 : (bPlayF p (machineF mach) (picks.l.take (min picks.l.length 100))).2.2 = (startF p).2 := (by simpa using hg); exact (by simp only [gv_t hg]; exact rp_int_neq rfl (rightF p) (0 : Int) rfl rfl)) ?_; simp only [N]
  refine wr (rp_pickA rfl (p := ((bPlayF p (machineF mach) (picks.l.take (min picks.l.length 100))).2.2 == (startF p).2)) (q := ((rightF p) != (0 : Int))) rfl rfl rfl) ?_; simp only [N]
  refine wmv (.bool (((bPlayF p (machineF mach) (picks.l.take (min picks.l.length 100))).2.2 == (startF p).2) && ((rightF p) != (0 : Int)))) ?_; simp only [N]
  refine wl_gE H (wn_t rfl rfl) (fun hg => rc_go Tryz.func12 (by kernel_rfl) rfl) (v := .bool true) (fun hg => by have x6 : (bPlayF p (machineF mach) (picks.l.take (min picks.l.length 100))).2.2 = (startF p).2 := (by simpa using (andl hg)); have x7 : (rightF p) ≠ (0 : Int) := (by simpa using (andr hg)); exact (awakeB_spec' _ (H.ro_at 3 rfl))) ?_
  clear H; intro w10 H
  simp only [N]
  refine wr (rp_pickA rfl (p := (((bPlayF p (machineF mach) (picks.l.take (min picks.l.length 100))).2.2 == (startF p).2) && ((rightF p) != (0 : Int)))) (q := true) rfl rfl rfl) ?_; simp only [N]
  refine wasg (.bool ((((bPlayF p (machineF mach) (picks.l.take (min picks.l.length 100))).2.2 == (startF p).2) && ((rightF p) != (0 : Int))) && true)) ?_; simp only [N]
  refine wpList_nil ?_
  refine wp_ret ?_
  try simp only [Exit.inBlock, Exit.then, cutP]
  refine bodyPost_ret (results1 rfl (rv_tmp rfl)) rfl ?_
  have hF : (waitsF p mach picks.l) = ((((bPlayF p (machineF mach) (picks.l.take (min picks.l.length 100))).2.2 == (startF p).2) && ((rightF p) != (0 : Int))) && true) := hFa.trans (bt hc1)
  rw [hF]
  exact ⟨rfl, H.ext⟩
 · --F 1
  have hc1N8 : (bPlayF p (machineF mach) (picks.l.take (min picks.l.length 100))).2.2 = (0 : Int) := (by simpa using (orl hc1))
  have hc1N9 : (startF p).2 = (0 : Int) := (by simpa using (orr hc1))
  have hrs := bstart_right (by simpa using orr hc1)
  have hok := right_ok hrs
  have hth4 := hok.threads.2
  have hlen12 := len_le hok
  have hord := bplay_order (p := p) (machine_kind mach) (picks.l.take (min picks.l.length 100))
  refine wp_skip ?_
  refine wp_seq ?_; refine wp_region_lit ?_; refine wasg (iv (0 : Int)) ?_; simp only [N]
  refine wpList_nil ?_
  refine wp_seq ?_; refine wp_seq ?_; refine wp_region_lit ?_; refine wr (rp_fieldAddr rfl Tryz.underlying29 rfl 3 rfl sz24 rfl 3 rfl) ?_; simp only [N]
  refine wr (rp_load1 H 2 rfl rfl rfl Tryz.underlying24 rfl (v := p.threads.val) rfl) ?_; simp only [N]
  refine wr (rp_len_sl (s := p.threads) Tryz.underlying24 rfl) ?_; simp only [N]
  refine wmv (iv (0 : Int)) ?_; simp only [N]
  refine wpList_nil ?_
  refine wp_block ?_
  refine wp_loopX (fun m' a' w' => ∃ (b13 : Nat) (b65 : Nat), a' = ⟨#[(ua 0), bv mach, picks.val, .pointer (some ⟨b1, 0, none⟩), undef, undef, (ua 6), bv (machineF mach), (ua 8), (⟨xd36_.1, xd36_.2, (bPlayF p (machineF mach) (picks.l.take (min picks.l.length 100))).2.1⟩ : Sl Pass).val, (tq a' 10), .pointer (some ⟨b2, 0, none⟩), (tq a' 12), iv ((b13 : Nat) : Int), undef, (tq a' 15), undef, undef, undef, undef, undef, undef, undef, undef, undef, undef, bv mach, (ua 27), (ua 28), (ua 29), (ua 30), (ua 31), (ua 32), (ua 33), (ua 34), (ua 35), (ua 36), (ua 37), (ua 38), (ua 39), (tq a' 40), (tq a' 41), (tq a' 42), (tq a' 43), (tq a' 44), (tq a' 45), (tq a' 46), (tq a' 47), (tq a' 48), (tq a' 49), (tq a' 50), undef, undef, undef, undef, undef, undef, undef, undef, undef, undef, undef, (tq a' 62), p.threads.val, iv ((p.threads.l.length : Nat) : Int), iv ((b65 : Nat) : Int), (tq a' 66), (tq a' 67), (tq a' 68), (tq a' 69), (tq a' 70), (tq a' 71), (tq a' 72), (tq a' 73), undef, undef, undef, undef, undef, undef, undef, undef, undef, undef, undef, undef, undef, undef, undef, undef, undef, undef, undef, undef, undef, undef, undef, undef, undef, undef, undef, undef, undef, undef, undef, undef, undef, undef, undef, undef, undef, undef, undef, undef, undef, undef, undef, undef, undef, undef, undef, undef, undef, undef, undef, undef, undef, undef, undef, undef, undef, undef, undef, undef, undef, undef, undef, undef, undef, undef, undef, undef, undef, undef, undef, undef, undef, undef, undef, undef, undef, undef, undef, undef, undef, undef, undef, undef, undef, undef, undef, undef, undef, undef, undef, undef, undef, undef, undef, undef, undef, undef, undef, undef, undef, undef, undef, undef, undef, undef, undef, undef, undef, undef, undef, undef, undef, undef, undef, undef, undef, undef, undef, undef, undef, undef, undef, undef, undef, undef, undef, undef, undef, undef, undef, undef, undef, undef, undef, undef, undef, undef, undef, undef, undef, undef, undef, undef, undef, undef, undef, undef, undef, undef, undef, undef, undef, undef, undef, undef, undef, undef, undef, undef, undef, undef, undef, undef, undef], []⟩ ∧ Own w [] [SlIn 3 Pass.cells (⟨xd36_.1, xd36_.2, (bPlayF p (machineF mach) (picks.l.take (min picks.l.length 100))).2.1⟩ : Sl Pass), IsProg p, SlIn 1 eByte picks, Glob] [.blk b2 (.cells (enc (startF p).1).toArray 41 (0, 0)), .blk bd8 (.cells (enc (bPlayF p (machineF mach) (picks.l.take (min picks.l.length 100))).1).toArray 64 (0, 0)), .blk b1 (.cells (p.cells).toArray 29 (0, 0))] w' ∧ (b13 ≤ 12 * b65) ∧ (b65 ≤ p.threads.l.length) ∧ (waitsF p mach picks.l) = loopL waitsF_b (waitsF_bk p mach picks.l) (p.threads.l.drop b65) b13 ∧ m' = p.threads.l.length - b65) _ ⟨0, 0, (by kernel_rfl), H, (by omega), (by omega), hFa.trans (bf hc1), rfl⟩ ?_
  clear H
  rintro _ a_ w11 ⟨b13, b65, ha_, H, hib0, hib1, hFb, rfl⟩
  obtain ⟨ub, hu_⟩ : ∃ ub : Nat → Value, a_ = ⟨#[(ua 0), bv mach, picks.val, .pointer (some ⟨b1, 0, none⟩), undef, undef, (ua 6), bv (machineF mach), (ua 8), (⟨xd36_.1, xd36_.2, (bPlayF p (machineF mach) (picks.l.take (min picks.l.length 100))).2.1⟩ : Sl Pass).val, (ub 10), .pointer (some ⟨b2, 0, none⟩), (ub 12), iv ((b13 : Nat) : Int), undef, (ub 15), undef, undef, undef, undef, undef, undef, undef, undef, undef, undef, bv mach, (ua 27), (ua 28), (ua 29), (ua 30), (ua 31), (ua 32), (ua 33), (ua 34), (ua 35), (ua 36), (ua 37), (ua 38), (ua 39), (ub 40), (ub 41), (ub 42), (ub 43), (ub 44), (ub 45), (ub 46), (ub 47), (ub 48), (ub 49), (ub 50), undef, undef, undef, undef, undef, undef, undef, undef, undef, undef, undef, (ub 62), p.threads.val, iv ((p.threads.l.length : Nat) : Int), iv ((b65 : Nat) : Int), (ub 66), (ub 67), (ub 68), (ub 69), (ub 70), (ub 71), (ub 72), (ub 73), undef, undef, undef, undef, undef, undef, undef, undef, undef, undef, undef, undef, undef, undef, undef, undef, undef, undef, undef, undef, undef, undef, undef, undef, undef, undef, undef, undef, undef, undef, undef, undef, undef, undef, undef, undef, undef, undef, undef, undef, undef, undef, undef, undef, undef, undef, undef, undef, undef, undef, undef, undef, undef, undef, undef, undef, undef, undef, undef, undef, undef, undef, undef, undef, undef, undef, undef, undef, undef, undef, undef, undef, undef, undef, undef, undef, undef, undef, undef, undef, undef, undef, undef, undef, undef, undef, undef, undef, undef, undef, undef, undef, undef, undef, undef, undef, undef, undef, undef, undef, undef, undef, undef, undef, undef, undef, undef, undef, undef, undef, undef, undef, undef, undef, undef, undef, undef, undef, undef, undef, undef, undef, undef, undef, undef, undef, undef, undef, undef, undef, undef, undef, undef, undef, undef, undef, undef, undef, undef, undef, undef, undef, undef, undef, undef, undef, undef, undef, undef, undef, undef, undef, undef, undef, undef, undef, undef, undef, undef, undef, undef, undef, undef, undef, undef], []⟩ := ⟨fun n => tq a_ n, ha_⟩
  clear ha_; subst hu_
  have hlb := hlen12 b65
  refine wp_seq ?_; refine wp_region_lit ?_; refine wr (rp_int_lss rfl ((b65 : Nat) : Int) ((p.threads.l.length : Nat) : Int) rfl rfl) ?_; simp only [N]
  refine wpList_nil ?_
  refine wp_seq ?_; refine wp_cond_split rfl (fun hc2 => ?_) (fun hc2 => ?_)
  · --T 2
   have hc2N10 : ((b65 : Nat) : Int) < ((p.threads.l.length : Nat) : Int) := (by simpa using hc2)
   obtain ⟨rb, hrb⟩ : ∃ r, r = loopL waitsF_b (waitsF_bk p mach picks.l) (p.threads.l.drop (b65 + 1)) := ⟨_, rfl⟩
   have hFb2 := hFb.trans (loopL_step (show b65 < p.threads.l.length by omega))
   rw [← hrb] at hFb2
   refine wp_skip ?_
   refine wp_seq ?_; refine wp_block ?_
   refine wp_seq ?_; refine wp_region_lit ?_; refine wr (rp_indexAddr_sl (IsProg.threads (H.ro_at 1 rfl)) rfl Tryz.underlying24 sz59 rfl b65 rfl (by omega)) ?_; simp only [N]
   refine wr (rp_load1_sl (IsProg.threads (H.ro_at 1 rfl)) b65 (by omega) rfl Tryz.underlying59 rfl 0 rfl (by omega) (v := (p.threads.l.getD b65 default).val) rfl) ?_; simp only [N]
   refine wasg ((p.threads.l.getD b65 default).val) ?_; simp only [N]
   refine wpList_nil ?_
   refine wp_region_lit ?_; refine wmv (iv ((b13 : Nat) : Int)) ?_; simp only [N]
   refine wmv ((p.threads.l.getD b65 default).val) ?_; simp only [N]
   refine wr (rp_len_sl (s := (p.threads.l.getD b65 default)) Tryz.underlying59 rfl) ?_; simp only [N]
   refine wr (rp_int_add rfl ((b13 : Nat) : Int) (((p.threads.l.getD b65 default).l.length : Nat) : Int) rfl rfl (by omega)) ?_; simp only [N]
   refine wasg (iv (((b13 : Nat) : Int) + (((p.threads.l.getD b65 default).l.length : Nat) : Int))) ?_; simp only [N]
   refine wpList_nil ?_
   refine wp_region_lit ?_; refine wr (rp_int_add rfl ((b65 : Nat) : Int) (1 : Int) rfl rfl (by omega)) ?_; simp only [N]
   refine wmv (iv (((b65 : Nat) : Int) + (1 : Int))) ?_; simp only [N]
   refine wpList_nil ?_
   show ∃ n', n' < _ ∧ _
   refine ⟨_, ?_, (b13 + (p.threads.l.getD b65 default).l.length), (b65 + 1), (by kernel_rfl), H, (by have := hlen12 b65; omega), (by omega), hFb2.trans (congrFun hrb _), rfl⟩
   omega
  · --F 2
   have hc2N11 : ((p.threads.l.length : Nat) : Int) ≤ ((b65 : Nat) : Int) := (by simpa using hc2)
   have hFb2 := hFb.trans (loopL_end (show p.threads.l.length ≤ b65 by omega))
   refine wp_exit ?_
   refine wp_seq ?_; refine wp_seq ?_; refine wp_region_lit ?_; refine wmv ((⟨xd36_.1, xd36_.2, (bPlayF p (machineF mach) (picks.l.take (min picks.l.length 100))).2.1⟩ : Sl Pass).val) ?_; simp only [N]
   refine wr (rp_len_sl (s := (⟨xd36_.1, xd36_.2, (bPlayF p (machineF mach) (picks.l.take (min picks.l.length 100))).2.1⟩ : Sl Pass)) Tryz.underlying44 rfl) ?_; simp only [N]
   refine wmv (iv (0 : Int)) ?_; simp only [N]
   refine wpList_nil ?_
   refine wp_block ?_
   refine wp_loopX (fun m' a' w' => ∃ (c76 : Nat) (cb2 : List UInt8), a' = ⟨#[(ua 0), bv mach, picks.val, .pointer (some ⟨b1, 0, none⟩), undef, undef, (tq a' 6), bv (machineF mach), (ua 8), (⟨xd36_.1, xd36_.2, (bPlayF p (machineF mach) (picks.l.take (min picks.l.length 100))).2.1⟩ : Sl Pass).val, (tq a' 10), .pointer (some ⟨b2, 0, none⟩), (ub 12), iv ((b13 : Nat) : Int), undef, (ub 15), undef, (tq a' 17), (tq a' 18), (tq a' 19), (tq a' 20), (tq a' 21), undef, (tq a' 23), (tq a' 24), (tq a' 25), bv mach, (ua 27), (ua 28), (ua 29), (ua 30), (ua 31), (ua 32), (ua 33), (ua 34), (ua 35), (ua 36), (ua 37), (ua 38), (ua 39), (ub 40), (ub 41), (ub 42), (ub 43), (ub 44), (ub 45), (ub 46), (ub 47), (ub 48), (ub 49), (ub 50), undef, undef, undef, undef, undef, undef, undef, undef, undef, undef, undef, (ub 62), (tq a' 63), (tq a' 64), (tq a' 65), (tq a' 66), (ub 67), (ub 68), (ub 69), (ub 70), (ub 71), (ub 72), (ub 73), (⟨xd36_.1, xd36_.2, (bPlayF p (machineF mach) (picks.l.take (min picks.l.length 100))).2.1⟩ : Sl Pass).val, iv (((bPlayF p (machineF mach) (picks.l.take (min picks.l.length 100))).2.1.length : Nat) : Int), iv ((c76 : Nat) : Int), (tq a' 77), (tq a' 78), (tq a' 79), (tq a' 80), (tq a' 81), (tq a' 82), (tq a' 83), (tq a' 84), (tq a' 85), (tq a' 86), (tq a' 87), (tq a' 88), (tq a' 89), (tq a' 90), (tq a' 91), (tq a' 92), (tq a' 93), (tq a' 94), (tq a' 95), (tq a' 96), (tq a' 97), (tq a' 98), (tq a' 99), (tq a' 100), (tq a' 101), (tq a' 102), (tq a' 103), (tq a' 104), (tq a' 105), (tq a' 106), (tq a' 107), (tq a' 108), (tq a' 109), (tq a' 110), (tq a' 111), (tq a' 112), (tq a' 113), (tq a' 114), (tq a' 115), (tq a' 116), (tq a' 117), (tq a' 118), (tq a' 119), (tq a' 120), (tq a' 121), (tq a' 122), (tq a' 123), (tq a' 124), (tq a' 125), (tq a' 126), (tq a' 127), (tq a' 128), (tq a' 129), (tq a' 130), (tq a' 131), (tq a' 132), (tq a' 133), (tq a' 134), (tq a' 135), (tq a' 136), (tq a' 137), (tq a' 138), (tq a' 139), (tq a' 140), (tq a' 141), (tq a' 142), (tq a' 143), (tq a' 144), (tq a' 145), (tq a' 146), (tq a' 147), (tq a' 148), (tq a' 149), (tq a' 150), (tq a' 151), (tq a' 152), (tq a' 153), (tq a' 154), (tq a' 155), (tq a' 156), (tq a' 157), (tq a' 158), (tq a' 159), (tq a' 160), (tq a' 161), (tq a' 162), (tq a' 163), (tq a' 164), (tq a' 165), (tq a' 166), (tq a' 167), (tq a' 168), (tq a' 169), (tq a' 170), (tq a' 171), (tq a' 172), (tq a' 173), (tq a' 174), (tq a' 175), (tq a' 176), (tq a' 177), (tq a' 178), (tq a' 179), (tq a' 180), (tq a' 181), (tq a' 182), (tq a' 183), (tq a' 184), (tq a' 185), (tq a' 186), (tq a' 187), (tq a' 188), (tq a' 189), (tq a' 190), (tq a' 191), (tq a' 192), (tq a' 193), (tq a' 194), (tq a' 195), (tq a' 196), (tq a' 197), (tq a' 198), (tq a' 199), (tq a' 200), (tq a' 201), (tq a' 202), (tq a' 203), (tq a' 204), (tq a' 205), (tq a' 206), (tq a' 207), (tq a' 208), (tq a' 209), (tq a' 210), (tq a' 211), (tq a' 212), (tq a' 213), (tq a' 214), (tq a' 215), (tq a' 216), (tq a' 217), (tq a' 218), undef, undef, undef, undef, undef, undef, undef, undef, undef, undef, undef, undef, undef, undef, undef, undef, undef, undef, undef, undef], []⟩ ∧ Own w [] [SlIn 3 Pass.cells (⟨xd36_.1, xd36_.2, (bPlayF p (machineF mach) (picks.l.take (min picks.l.length 100))).2.1⟩ : Sl Pass), IsProg p, SlIn 1 eByte picks, Glob] [.blk b2 (.cells (enc cb2).toArray 41 (0, 0)), .blk bd8 (.cells (enc (bPlayF p (machineF mach) (picks.l.take (min picks.l.length 100))).1).toArray 64 (0, 0)), .blk b1 (.cells (p.cells).toArray 29 (0, 0))] w' ∧ (cb2.length = 142) ∧ (c76 ≤ (bPlayF p (machineF mach) (picks.l.take (min picks.l.length 100))).2.1.length) ∧ (waitsF p mach picks.l) = loopL (waitsF_c p mach picks.l) (waitsF_ck p mach picks.l b13) ((bPlayF p (machineF mach) (picks.l.take (min picks.l.length 100))).2.1.drop c76) (c76, cb2) ∧ m' = (bPlayF p (machineF mach) (picks.l.take (min picks.l.length 100))).2.1.length - c76) _ ⟨0, (startF p).1, (by kernel_rfl), H, (by first | omega | simp [-List.reduceReplicate] <;> omega | simp [*, -List.reduceReplicate] <;> omega), (by omega), hFb2, rfl⟩ ?_
   clear H
   rintro _ a_ w12 ⟨c76, cb2, ha_, H, hic0, hic1, hFc, rfl⟩
   obtain ⟨uc, hu_⟩ : ∃ uc : Nat → Value, a_ = ⟨#[(ua 0), bv mach, picks.val, .pointer (some ⟨b1, 0, none⟩), undef, undef, (uc 6), bv (machineF mach), (ua 8), (⟨xd36_.1, xd36_.2, (bPlayF p (machineF mach) (picks.l.take (min picks.l.length 100))).2.1⟩ : Sl Pass).val, (uc 10), .pointer (some ⟨b2, 0, none⟩), (ub 12), iv ((b13 : Nat) : Int), undef, (ub 15), undef, (uc 17), (uc 18), (uc 19), (uc 20), (uc 21), undef, (uc 23), (uc 24), (uc 25), bv mach, (ua 27), (ua 28), (ua 29), (ua 30), (ua 31), (ua 32), (ua 33), (ua 34), (ua 35), (ua 36), (ua 37), (ua 38), (ua 39), (ub 40), (ub 41), (ub 42), (ub 43), (ub 44), (ub 45), (ub 46), (ub 47), (ub 48), (ub 49), (ub 50), undef, undef, undef, undef, undef, undef, undef, undef, undef, undef, undef, (ub 62), (uc 63), (uc 64), (uc 65), (uc 66), (ub 67), (ub 68), (ub 69), (ub 70), (ub 71), (ub 72), (ub 73), (⟨xd36_.1, xd36_.2, (bPlayF p (machineF mach) (picks.l.take (min picks.l.length 100))).2.1⟩ : Sl Pass).val, iv (((bPlayF p (machineF mach) (picks.l.take (min picks.l.length 100))).2.1.length : Nat) : Int), iv ((c76 : Nat) : Int), (uc 77), (uc 78), (uc 79), (uc 80), (uc 81), (uc 82), (uc 83), (uc 84), (uc 85), (uc 86), (uc 87), (uc 88), (uc 89), (uc 90), (uc 91), (uc 92), (uc 93), (uc 94), (uc 95), (uc 96), (uc 97), (uc 98), (uc 99), (uc 100), (uc 101), (uc 102), (uc 103), (uc 104), (uc 105), (uc 106), (uc 107), (uc 108), (uc 109), (uc 110), (uc 111), (uc 112), (uc 113), (uc 114), (uc 115), (uc 116), (uc 117), (uc 118), (uc 119), (uc 120), (uc 121), (uc 122), (uc 123), (uc 124), (uc 125), (uc 126), (uc 127), (uc 128), (uc 129), (uc 130), (uc 131), (uc 132), (uc 133), (uc 134), (uc 135), (uc 136), (uc 137), (uc 138), (uc 139), (uc 140), (uc 141), (uc 142), (uc 143), (uc 144), (uc 145), (uc 146), (uc 147), (uc 148), (uc 149), (uc 150), (uc 151), (uc 152), (uc 153), (uc 154), (uc 155), (uc 156), (uc 157), (uc 158), (uc 159), (uc 160), (uc 161), (uc 162), (uc 163), (uc 164), (uc 165), (uc 166), (uc 167), (uc 168), (uc 169), (uc 170), (uc 171), (uc 172), (uc 173), (uc 174), (uc 175), (uc 176), (uc 177), (uc 178), (uc 179), (uc 180), (uc 181), (uc 182), (uc 183), (uc 184), (uc 185), (uc 186), (uc 187), (uc 188), (uc 189), (uc 190), (uc 191), (uc 192), (uc 193), (uc 194), (uc 195), (uc 196), (uc 197), (uc 198), (uc 199), (uc 200), (uc 201), (uc 202), (uc 203), (uc 204), (uc 205), (uc 206), (uc 207), (uc 208), (uc 209), (uc 210), (uc 211), (uc 212), (uc 213), (uc 214), (uc 215), (uc 216), (uc 217), (uc 218), undef, undef, undef, undef, undef, undef, undef, undef, undef, undef, undef, undef, undef, undef, undef, undef, undef, undef, undef, undef], []⟩ := ⟨fun n => tq a_ n, ha_⟩
   clear ha_; subst hu_
   refine wp_seq ?_; refine wp_region_lit ?_; refine wr (rp_int_lss rfl ((c76 : Nat) : Int) (((bPlayF p (machineF mach) (picks.l.take (min picks.l.length 100))).2.1.length : Nat) : Int) rfl rfl) ?_; simp only [N]
   refine wpList_nil ?_
   refine wp_seq ?_; refine wp_cond_split rfl (fun hc3 => ?_) (fun hc3 => ?_)
   · --T 3
    have hc3N12 : ((c76 : Nat) : Int) < (((bPlayF p (machineF mach) (picks.l.take (min picks.l.length 100))).2.1.length : Nat) : Int) := (by simpa using hc3)
    obtain ⟨rc, hrc⟩ : ∃ r, r = loopL (waitsF_c p mach picks.l) (waitsF_ck p mach picks.l b13) ((bPlayF p (machineF mach) (picks.l.take (min picks.l.length 100))).2.1.drop (c76 + 1)) := ⟨_, rfl⟩
    have hFc2 := hFc.trans (loopL_step (show c76 < (bPlayF p (machineF mach) (picks.l.take (min picks.l.length 100))).2.1.length by omega))
    rw [← hrc] at hFc2
    refine wp_skip ?_
    refine wp_seq ?_; refine wp_block ?_
    refine wp_seq ?_; refine wp_region_lit ?_; refine wr (rp_indexAddr_sl (H.ro_at 0 rfl) rfl Tryz.underlying44 sz50 rfl c76 rfl (by show _ < (bPlayF p (machineF mach) (picks.l.take (min picks.l.length 100))).2.1.length; omega)) ?_; simp only [N]
    refine wr (rp_loadN_sl (H.ro_at 0 rfl) c76 (by show _ < (bPlayF p (machineF mach) (picks.l.take (min picks.l.length 100))).2.1.length; omega) rfl Tryz.underlying50 rfl rfl sz50) ?_; simp only [N]
    refine wl_alloc H rfl rfl zv50 ?_
    clear H; intro b3 w13 hnb3 H; dsimp only [Value.cells] at H
    simp only [N]
    refine wl_storeV H 0 rfl rfl rfl rfl ((((bPlayF p (machineF mach) (picks.l.take (min picks.l.length 100))).2.1.getD c76 default).cells).toArray) rfl (Pass.cells_one _) sz50 ?_
    clear H; intro w14 H; simp only [M] at H
    simp only [N]
    refine wpList_nil ?_
    refine wp_seq ?_; refine wp_region_lit ?_; refine wr (rp_loadN H 3 rfl rfl rfl Tryz.underlying29 rfl sz29 (Nat.le_of_ble_eq_true rfl) (cs' := p.cells) rfl) ?_; simp only [N]
    refine wmv (bv (machineF mach)) ?_; simp only [N]
    refine wr (rp_loadWA H 1 rfl rfl rfl Tryz.underlying41 rfl sz41 rfl) ?_; simp only [N]
    refine wl_callFA H rfl (rc_go Tryz.func10 (by kernel_rfl) rfl) (bMovesF_spec p (machineF mach) cb2 (by first | omega | simp [-List.reduceReplicate] <;> omega | simp [*, -List.reduceReplicate] <;> omega) _ (H.ro_at 1 rfl) (H.ro_at 3 rfl)) ?_
    clear H; intro x1_ w15 H
    simp only [N]
    have hcx1_0 : (bMovesF p (machineF mach) cb2).length ≤ 140737488355328 := (FreshAt.now (H.ro_at 0 rfl)).2.2.1
    refine wasg ((⟨x1_.1, x1_.2, (bMovesF p (machineF mach) cb2)⟩ : Sl Pass).val) ?_; simp only [N]
    refine wpList_nil ?_
    refine wp_seq ?_; refine wp_seq ?_; refine wp_region_lit ?_; refine wr (rp_fieldAddr rfl Tryz.underlying29 rfl 3 rfl sz24 rfl 3 rfl) ?_; simp only [N]
    refine wr (rp_load1 H 3 rfl rfl rfl Tryz.underlying24 rfl (v := p.threads.val) rfl) ?_; simp only [N]
    refine wr (rp_len_sl (s := p.threads) Tryz.underlying24 rfl) ?_; simp only [N]
    refine wmv (iv (0 : Int)) ?_; simp only [N]
    refine wpList_nil ?_
    refine wp_block ?_
    refine wp_loopX (fun m' a' w' => ∃ (d87 : Nat), a' = ⟨#[(ua 0), bv mach, picks.val, .pointer (some ⟨b1, 0, none⟩), undef, undef, (tq a' 6), bv (machineF mach), (ua 8), (⟨xd36_.1, xd36_.2, (bPlayF p (machineF mach) (picks.l.take (min picks.l.length 100))).2.1⟩ : Sl Pass).val, (uc 10), .pointer (some ⟨b2, 0, none⟩), (ub 12), iv ((b13 : Nat) : Int), undef, (ub 15), undef, .pointer (some ⟨b3, 0, none⟩), (⟨x1_.1, x1_.2, (bMovesF p (machineF mach) cb2)⟩ : Sl Pass).val, (tq a' 19), (tq a' 20), (tq a' 21), undef, (tq a' 23), (tq a' 24), (tq a' 25), bv mach, (ua 27), (ua 28), (ua 29), (ua 30), (ua 31), (ua 32), (ua 33), (ua 34), (ua 35), (ua 36), (ua 37), (ua 38), (ua 39), (ub 40), (ub 41), (ub 42), (ub 43), (ub 44), (ub 45), (ub 46), (ub 47), (ub 48), (ub 49), (ub 50), undef, undef, undef, undef, undef, undef, undef, undef, undef, undef, undef, (ub 62), (uc 63), (uc 64), (uc 65), (uc 66), (ub 67), (ub 68), (ub 69), (ub 70), (ub 71), (ub 72), (ub 73), (⟨xd36_.1, xd36_.2, (bPlayF p (machineF mach) (picks.l.take (min picks.l.length 100))).2.1⟩ : Sl Pass).val, iv (((bPlayF p (machineF mach) (picks.l.take (min picks.l.length 100))).2.1.length : Nat) : Int), iv ((c76 : Nat) : Int), (tq a' 77), (tq a' 78), (tq a' 79), (tq a' 80), (tq a' 81), (tq a' 82), (tq a' 83), (tq a' 84), (tq a' 85), iv ((p.threads.l.length : Nat) : Int), iv ((d87 : Nat) : Int), (tq a' 88), (tq a' 89), (tq a' 90), (tq a' 91), (tq a' 92), (tq a' 93), (tq a' 94), (tq a' 95), (tq a' 96), (tq a' 97), (tq a' 98), (tq a' 99), (tq a' 100), (tq a' 101), (tq a' 102), (tq a' 103), (tq a' 104), (tq a' 105), (tq a' 106), (tq a' 107), (tq a' 108), (tq a' 109), (tq a' 110), (tq a' 111), (tq a' 112), (tq a' 113), (tq a' 114), (tq a' 115), (tq a' 116), (tq a' 117), (tq a' 118), (tq a' 119), (tq a' 120), (tq a' 121), (tq a' 122), (tq a' 123), (tq a' 124), (tq a' 125), (tq a' 126), (tq a' 127), (tq a' 128), (tq a' 129), (tq a' 130), (tq a' 131), (tq a' 132), (tq a' 133), (tq a' 134), (tq a' 135), (tq a' 136), (tq a' 137), (tq a' 138), (tq a' 139), (tq a' 140), (tq a' 141), (tq a' 142), (tq a' 143), (tq a' 144), (tq a' 145), (tq a' 146), (tq a' 147), (tq a' 148), (tq a' 149), (tq a' 150), (tq a' 151), (tq a' 152), (tq a' 153), (tq a' 154), (tq a' 155), (tq a' 156), (tq a' 157), (tq a' 158), (tq a' 159), (tq a' 160), (tq a' 161), (tq a' 162), (tq a' 163), (tq a' 164), (tq a' 165), (tq a' 166), (tq a' 167), (tq a' 168), (tq a' 169), (tq a' 170), (tq a' 171), (tq a' 172), (tq a' 173), (tq a' 174), (tq a' 175), (tq a' 176), (tq a' 177), (tq a' 178), (tq a' 179), (tq a' 180), (tq a' 181), (tq a' 182), (tq a' 183), (tq a' 184), (tq a' 185), (tq a' 186), (tq a' 187), (tq a' 188), (tq a' 189), (tq a' 190), (tq a' 191), (tq a' 192), (tq a' 193), (tq a' 194), (tq a' 195), (tq a' 196), (tq a' 197), (tq a' 198), (tq a' 199), (tq a' 200), (uc 201), (uc 202), (uc 203), (uc 204), (uc 205), (uc 206), (uc 207), (uc 208), (uc 209), (uc 210), (uc 211), (uc 212), (uc 213), (uc 214), (uc 215), (uc 216), (uc 217), (uc 218), undef, undef, undef, undef, undef, undef, undef, undef, undef, undef, undef, undef, undef, undef, undef, undef, undef, undef, undef, undef], []⟩ ∧ Own w [] [FreshAt w (SlIn 3 Pass.cells (⟨x1_.1, x1_.2, (bMovesF p (machineF mach) cb2)⟩ : Sl Pass)), SlIn 3 Pass.cells (⟨xd36_.1, xd36_.2, (bPlayF p (machineF mach) (picks.l.take (min picks.l.length 100))).2.1⟩ : Sl Pass), IsProg p, SlIn 1 eByte picks, Glob] [.blk b3 (.cells (((bPlayF p (machineF mach) (picks.l.take (min picks.l.length 100))).2.1.getD c76 default).cells).toArray 50 (0, 0)), .blk b2 (.cells (enc cb2).toArray 41 (0, 0)), .blk bd8 (.cells (enc (bPlayF p (machineF mach) (picks.l.take (min picks.l.length 100))).1).toArray 64 (0, 0)), .blk b1 (.cells (p.cells).toArray 29 (0, 0))] w' ∧ (d87 ≤ p.threads.l.length) ∧ (waitsF p mach picks.l) = loopL (waitsF_d p mach cb2) (waitsF_dk p mach picks.l c76 cb2 rc) (p.threads.l.drop d87) d87 ∧ m' = p.threads.l.length - d87) _ ⟨0, (by kernel_rfl), H, (by omega), hFc2, rfl⟩ ?_
    clear H
    rintro _ a_ w16 ⟨d87, ha_, H, hid0, hFd, rfl⟩
    obtain ⟨ud, hu_⟩ : ∃ ud : Nat → Value, a_ = ⟨#[(ua 0), bv mach, picks.val, .pointer (some ⟨b1, 0, none⟩), undef, undef, (ud 6), bv (machineF mach), (ua 8), (⟨xd36_.1, xd36_.2, (bPlayF p (machineF mach) (picks.l.take (min picks.l.length 100))).2.1⟩ : Sl Pass).val, (uc 10), .pointer (some ⟨b2, 0, none⟩), (ub 12), iv ((b13 : Nat) : Int), undef, (ub 15), undef, .pointer (some ⟨b3, 0, none⟩), (⟨x1_.1, x1_.2, (bMovesF p (machineF mach) cb2)⟩ : Sl Pass).val, (ud 19), (ud 20), (ud 21), undef, (ud 23), (ud 24), (ud 25), bv mach, (ua 27), (ua 28), (ua 29), (ua 30), (ua 31), (ua 32), (ua 33), (ua 34), (ua 35), (ua 36), (ua 37), (ua 38), (ua 39), (ub 40), (ub 41), (ub 42), (ub 43), (ub 44), (ub 45), (ub 46), (ub 47), (ub 48), (ub 49), (ub 50), undef, undef, undef, undef, undef, undef, undef, undef, undef, undef, undef, (ub 62), (uc 63), (uc 64), (uc 65), (uc 66), (ub 67), (ub 68), (ub 69), (ub 70), (ub 71), (ub 72), (ub 73), (⟨xd36_.1, xd36_.2, (bPlayF p (machineF mach) (picks.l.take (min picks.l.length 100))).2.1⟩ : Sl Pass).val, iv (((bPlayF p (machineF mach) (picks.l.take (min picks.l.length 100))).2.1.length : Nat) : Int), iv ((c76 : Nat) : Int), (ud 77), (ud 78), (ud 79), (ud 80), (ud 81), (ud 82), (ud 83), (ud 84), (ud 85), iv ((p.threads.l.length : Nat) : Int), iv ((d87 : Nat) : Int), (ud 88), (ud 89), (ud 90), (ud 91), (ud 92), (ud 93), (ud 94), (ud 95), (ud 96), (ud 97), (ud 98), (ud 99), (ud 100), (ud 101), (ud 102), (ud 103), (ud 104), (ud 105), (ud 106), (ud 107), (ud 108), (ud 109), (ud 110), (ud 111), (ud 112), (ud 113), (ud 114), (ud 115), (ud 116), (ud 117), (ud 118), (ud 119), (ud 120), (ud 121), (ud 122), (ud 123), (ud 124), (ud 125), (ud 126), (ud 127), (ud 128), (ud 129), (ud 130), (ud 131), (ud 132), (ud 133), (ud 134), (ud 135), (ud 136), (ud 137), (ud 138), (ud 139), (ud 140), (ud 141), (ud 142), (ud 143), (ud 144), (ud 145), (ud 146), (ud 147), (ud 148), (ud 149), (ud 150), (ud 151), (ud 152), (ud 153), (ud 154), (ud 155), (ud 156), (ud 157), (ud 158), (ud 159), (ud 160), (ud 161), (ud 162), (ud 163), (ud 164), (ud 165), (ud 166), (ud 167), (ud 168), (ud 169), (ud 170), (ud 171), (ud 172), (ud 173), (ud 174), (ud 175), (ud 176), (ud 177), (ud 178), (ud 179), (ud 180), (ud 181), (ud 182), (ud 183), (ud 184), (ud 185), (ud 186), (ud 187), (ud 188), (ud 189), (ud 190), (ud 191), (ud 192), (ud 193), (ud 194), (ud 195), (ud 196), (ud 197), (ud 198), (ud 199), (ud 200), (uc 201), (uc 202), (uc 203), (uc 204), (uc 205), (uc 206), (uc 207), (uc 208), (uc 209), (uc 210), (uc 211), (uc 212), (uc 213), (uc 214), (uc 215), (uc 216), (uc 217), (uc 218), undef, undef, undef, undef, undef, undef, undef, undef, undef, undef, undef, undef, undef, undef, undef, undef, undef, undef, undef, undef], []⟩ := ⟨fun n => tq a_ n, ha_⟩
    clear ha_; subst hu_
    refine wp_seq ?_; refine wp_region_lit ?_; refine wr (rp_int_lss rfl ((d87 : Nat) : Int) ((p.threads.l.length : Nat) : Int) rfl rfl) ?_; simp only [N]
    refine wpList_nil ?_
    refine wp_seq ?_; refine wp_cond_split rfl (fun hc4 => ?_) (fun hc4 => ?_)
    · --T 4
     have hc4N13 : ((d87 : Nat) : Int) < ((p.threads.l.length : Nat) : Int) := (by simpa using hc4)
     obtain ⟨rd, hrd⟩ : ∃ r, r = loopL (waitsF_d p mach cb2) (waitsF_dk p mach picks.l c76 cb2 rc) (p.threads.l.drop (d87 + 1)) := ⟨_, rfl⟩
     have hFd2 := hFd.trans (loopL_step (show d87 < p.threads.l.length by omega))
     rw [← hrd] at hFd2
     refine wp_skip ?_
     refine wp_seq ?_; refine wp_block ?_
     refine wp_seq ?_; refine wp_region_lit ?_; refine wmv (iv ((d87 : Nat) : Int)) ?_; simp only [N]
     refine wasg (iv ((d87 : Nat) : Int)) ?_; simp only [N]
     refine wpList_nil ?_
     refine wp_seq ?_; refine wp_region_lit ?_; refine wasg (.bool false) ?_; simp only [N]
     refine wasg (.bool false) ?_; simp only [N]
     refine wpList_nil ?_
     refine wp_seq ?_; refine wp_seq ?_; refine wp_region_lit ?_; refine wmv ((⟨x1_.1, x1_.2, (bMovesF p (machineF mach) cb2)⟩ : Sl Pass).val) ?_; simp only [N]
     refine wr (rp_len_sl (s := (⟨x1_.1, x1_.2, (bMovesF p (machineF mach) cb2)⟩ : Sl Pass)) Tryz.underlying44 rfl) ?_; simp only [N]
     refine wmv (iv (0 : Int)) ?_; simp only [N]
     refine wpList_nil ?_
     refine wp_block ?_
     refine wp_loopX (fun m' a' w' => ∃ (f20 : Bool) (f21 : Bool) (f92 : Nat), a' = ⟨#[(ua 0), bv mach, picks.val, .pointer (some ⟨b1, 0, none⟩), undef, undef, (ud 6), bv (machineF mach), (ua 8), (⟨xd36_.1, xd36_.2, (bPlayF p (machineF mach) (picks.l.take (min picks.l.length 100))).2.1⟩ : Sl Pass).val, (uc 10), .pointer (some ⟨b2, 0, none⟩), (ub 12), iv ((b13 : Nat) : Int), undef, (ub 15), undef, .pointer (some ⟨b3, 0, none⟩), (⟨x1_.1, x1_.2, (bMovesF p (machineF mach) cb2)⟩ : Sl Pass).val, iv ((d87 : Nat) : Int), .bool f20, .bool f21, undef, (tq a' 23), (ud 24), (ud 25), bv mach, (ua 27), (ua 28), (ua 29), (ua 30), (ua 31), (ua 32), (ua 33), (ua 34), (ua 35), (ua 36), (ua 37), (ua 38), (ua 39), (ub 40), (ub 41), (ub 42), (ub 43), (ub 44), (ub 45), (ub 46), (ub 47), (ub 48), (ub 49), (ub 50), undef, undef, undef, undef, undef, undef, undef, undef, undef, undef, undef, (ub 62), (uc 63), (uc 64), (uc 65), (uc 66), (ub 67), (ub 68), (ub 69), (ub 70), (ub 71), (ub 72), (ub 73), (⟨xd36_.1, xd36_.2, (bPlayF p (machineF mach) (picks.l.take (min picks.l.length 100))).2.1⟩ : Sl Pass).val, iv (((bPlayF p (machineF mach) (picks.l.take (min picks.l.length 100))).2.1.length : Nat) : Int), iv ((c76 : Nat) : Int), (ud 77), (ud 78), (ud 79), (ud 80), (ud 81), (ud 82), (ud 83), (ud 84), (ud 85), iv ((p.threads.l.length : Nat) : Int), iv ((d87 : Nat) : Int), (tq a' 88), (tq a' 89), (⟨x1_.1, x1_.2, (bMovesF p (machineF mach) cb2)⟩ : Sl Pass).val, iv (((bMovesF p (machineF mach) cb2).length : Nat) : Int), iv ((f92 : Nat) : Int), (tq a' 93), (tq a' 94), (tq a' 95), (tq a' 96), (tq a' 97), (tq a' 98), (tq a' 99), (tq a' 100), (tq a' 101), (tq a' 102), (tq a' 103), (tq a' 104), (tq a' 105), (tq a' 106), (tq a' 107), (tq a' 108), (tq a' 109), (tq a' 110), (tq a' 111), (tq a' 112), (tq a' 113), (tq a' 114), (tq a' 115), (tq a' 116), (tq a' 117), (tq a' 118), (tq a' 119), (tq a' 120), (tq a' 121), (ud 122), (ud 123), (ud 124), (ud 125), (ud 126), (ud 127), (ud 128), (ud 129), (ud 130), (ud 131), (ud 132), (ud 133), (ud 134), (ud 135), (ud 136), (ud 137), (ud 138), (ud 139), (ud 140), (ud 141), (ud 142), (ud 143), (ud 144), (ud 145), (ud 146), (ud 147), (ud 148), (ud 149), (ud 150), (ud 151), (ud 152), (ud 153), (ud 154), (ud 155), (ud 156), (ud 157), (ud 158), (ud 159), (ud 160), (ud 161), (ud 162), (ud 163), (ud 164), (ud 165), (ud 166), (ud 167), (ud 168), (ud 169), (ud 170), (ud 171), (ud 172), (ud 173), (ud 174), (ud 175), (ud 176), (ud 177), (ud 178), (ud 179), (ud 180), (ud 181), (ud 182), (ud 183), (ud 184), (ud 185), (ud 186), (ud 187), (ud 188), (ud 189), (ud 190), (ud 191), (ud 192), (ud 193), (ud 194), (ud 195), (ud 196), (ud 197), (ud 198), (ud 199), (ud 200), (uc 201), (uc 202), (uc 203), (uc 204), (uc 205), (uc 206), (uc 207), (uc 208), (uc 209), (uc 210), (uc 211), (uc 212), (uc 213), (uc 214), (uc 215), (uc 216), (uc 217), (uc 218), undef, undef, undef, undef, undef, undef, undef, undef, undef, undef, undef, undef, undef, undef, undef, undef, undef, undef, undef, undef], []⟩ ∧ Own w [] [FreshAt w (SlIn 3 Pass.cells (⟨x1_.1, x1_.2, (bMovesF p (machineF mach) cb2)⟩ : Sl Pass)), SlIn 3 Pass.cells (⟨xd36_.1, xd36_.2, (bPlayF p (machineF mach) (picks.l.take (min picks.l.length 100))).2.1⟩ : Sl Pass), IsProg p, SlIn 1 eByte picks, Glob] [.blk b3 (.cells (((bPlayF p (machineF mach) (picks.l.take (min picks.l.length 100))).2.1.getD c76 default).cells).toArray 50 (0, 0)), .blk b2 (.cells (enc cb2).toArray 41 (0, 0)), .blk bd8 (.cells (enc (bPlayF p (machineF mach) (picks.l.take (min picks.l.length 100))).1).toArray 64 (0, 0)), .blk b1 (.cells (p.cells).toArray 29 (0, 0))] w' ∧ (f92 ≤ (bMovesF p (machineF mach) cb2).length) ∧ (waitsF p mach picks.l) = loopL (waitsF_f d87) (waitsF_fk p cb2 d87 rd) ((bMovesF p (machineF mach) cb2).drop f92) (f20, f21) ∧ m' = (bMovesF p (machineF mach) cb2).length - f92) _ ⟨false, false, 0, (by kernel_rfl), H, (by omega), hFd2, rfl⟩ ?_
     clear H
     rintro _ a_ w17 ⟨f20, f21, f92, ha_, H, hif0, hFf, rfl⟩
     obtain ⟨uf, hu_⟩ : ∃ uf : Nat → Value, a_ = ⟨#[(ua 0), bv mach, picks.val, .pointer (some ⟨b1, 0, none⟩), undef, undef, (ud 6), bv (machineF mach), (ua 8), (⟨xd36_.1, xd36_.2, (bPlayF p (machineF mach) (picks.l.take (min picks.l.length 100))).2.1⟩ : Sl Pass).val, (uc 10), .pointer (some ⟨b2, 0, none⟩), (ub 12), iv ((b13 : Nat) : Int), undef, (ub 15), undef, .pointer (some ⟨b3, 0, none⟩), (⟨x1_.1, x1_.2, (bMovesF p (machineF mach) cb2)⟩ : Sl Pass).val, iv ((d87 : Nat) : Int), .bool f20, .bool f21, undef, (uf 23), (ud 24), (ud 25), bv mach, (ua 27), (ua 28), (ua 29), (ua 30), (ua 31), (ua 32), (ua 33), (ua 34), (ua 35), (ua 36), (ua 37), (ua 38), (ua 39), (ub 40), (ub 41), (ub 42), (ub 43), (ub 44), (ub 45), (ub 46), (ub 47), (ub 48), (ub 49), (ub 50), undef, undef, undef, undef, undef, undef, undef, undef, undef, undef, undef, (ub 62), (uc 63), (uc 64), (uc 65), (uc 66), (ub 67), (ub 68), (ub 69), (ub 70), (ub 71), (ub 72), (ub 73), (⟨xd36_.1, xd36_.2, (bPlayF p (machineF mach) (picks.l.take (min picks.l.length 100))).2.1⟩ : Sl Pass).val, iv (((bPlayF p (machineF mach) (picks.l.take (min picks.l.length 100))).2.1.length : Nat) : Int), iv ((c76 : Nat) : Int), (ud 77), (ud 78), (ud 79), (ud 80), (ud 81), (ud 82), (ud 83), (ud 84), (ud 85), iv ((p.threads.l.length : Nat) : Int), iv ((d87 : Nat) : Int), (uf 88), (uf 89), (⟨x1_.1, x1_.2, (bMovesF p (machineF mach) cb2)⟩ : Sl Pass).val, iv (((bMovesF p (machineF mach) cb2).length : Nat) : Int), iv ((f92 : Nat) : Int), (uf 93), (uf 94), (uf 95), (uf 96), (uf 97), (uf 98), (uf 99), (uf 100), (uf 101), (uf 102), (uf 103), (uf 104), (uf 105), (uf 106), (uf 107), (uf 108), (uf 109), (uf 110), (uf 111), (uf 112), (uf 113), (uf 114), (uf 115), (uf 116), (uf 117), (uf 118), (uf 119), (uf 120), (uf 121), (ud 122), (ud 123), (ud 124), (ud 125), (ud 126), (ud 127), (ud 128), (ud 129), (ud 130), (ud 131), (ud 132), (ud 133), (ud 134), (ud 135), (ud 136), (ud 137), (ud 138), (ud 139), (ud 140), (ud 141), (ud 142), (ud 143), (ud 144), (ud 145), (ud 146), (ud 147), (ud 148), (ud 149), (ud 150), (ud 151), (ud 152), (ud 153), (ud 154), (ud 155), (ud 156), (ud 157), (ud 158), (ud 159), (ud 160), (ud 161), (ud 162), (ud 163), (ud 164), (ud 165), (ud 166), (ud 167), (ud 168), (ud 169), (ud 170), (ud 171), (ud 172), (ud 173), (ud 174), (ud 175), (ud 176), (ud 177), (ud 178), (ud 179), (ud 180), (ud 181), (ud 182), (ud 183), (ud 184), (ud 185), (ud 186), (ud 187), (ud 188), (ud 189), (ud 190), (ud 191), (ud 192), (ud 193), (ud 194), (ud 195), (ud 196), (ud 197), (ud 198), (ud 199), (ud 200), (uc 201), (uc 202), (uc 203), (uc 204), (uc 205), (uc 206), (uc 207), (uc 208), (uc 209), (uc 210), (uc 211), (uc 212), (uc 213), (uc 214), (uc 215), (uc 216), (uc 217), (uc 218), undef, undef, undef, undef, undef, undef, undef, undef, undef, undef, undef, undef, undef, undef, undef, undef, undef, undef, undef, undef], []⟩ := ⟨fun n => tq a_ n, ha_⟩
     clear ha_; subst hu_
     refine wp_seq ?_; refine wp_region_lit ?_; refine wr (rp_int_lss rfl ((f92 : Nat) : Int) (((bMovesF p (machineF mach) cb2).length : Nat) : Int) rfl rfl) ?_; simp only [N]
     refine wpList_nil ?_
     refine wp_seq ?_; refine wp_cond_split rfl (fun hc5 => ?_) (fun hc5 => ?_)
     · --T 5
      have hc5N14 : ((f92 : Nat) : Int) < (((bMovesF p (machineF mach) cb2).length : Nat) : Int) := (by simpa using hc5)
      obtain ⟨rf, hrf⟩ : ∃ r, r = loopL (waitsF_f d87) (waitsF_fk p cb2 d87 rd) ((bMovesF p (machineF mach) cb2).drop (f92 + 1)) := ⟨_, rfl⟩
      have hFf2 := hFf.trans (loopL_step (show f92 < (bMovesF p (machineF mach) cb2).length by omega))
      rw [← hrf] at hFf2
      refine wp_skip ?_
      refine wp_seq ?_; refine wp_block ?_
      refine wp_seq ?_; refine wp_region_lit ?_; refine wr (rp_indexAddr_sl (FreshAt.now (H.ro_at 0 rfl)) rfl Tryz.underlying44 sz50 rfl f92 rfl (by show _ < (bMovesF p (machineF mach) cb2).length; omega)) ?_; simp only [N]
      refine wr (rp_loadN_sl (FreshAt.now (H.ro_at 0 rfl)) f92 (by show _ < (bMovesF p (machineF mach) cb2).length; omega) rfl Tryz.underlying50 rfl rfl sz50) ?_; simp only [N]
      refine wl_alloc H rfl rfl zv50 ?_
      clear H; intro b4 w18 hnb4 H; dsimp only [Value.cells] at H
      simp only [N]
      refine wl_storeV H 0 rfl rfl rfl rfl ((((bMovesF p (machineF mach) cb2).getD f92 default).cells).toArray) rfl (Pass.cells_one _) sz50 ?_
      clear H; intro w19 H; simp only [M] at H
      simp only [N]
      refine wpList_nil ?_
      refine wp_seq ?_; refine wp_region_lit ?_; refine wmv (.bool f20) ?_; simp only [N]
      refine wmv (.bool f20) ?_; simp only [N]
      refine wl_g (wn_f rfl rfl) (v := .pointer (some ⟨b4, 0, none⟩)) (fun hg => rp_fieldAddr rfl Tryz.underlying50 rfl 0 rfl sz5 rfl 0 rfl) ?_; simp only [N]
      refine wl_g (wn_f rfl rfl) (v := bv ((bMovesF p (machineF mach) cb2).getD f92 default).thread) (fun hg => by simp only [gv_t hg]; exact rp_load1 H 0 rfl rfl rfl Tryz.underlying5 rfl (v := bv ((bMovesF p (machineF mach) cb2).getD f92 default).thread) rfl) ?_; simp only [N]
      refine wl_g (wn_f rfl rfl) (v := iv ((((bMovesF p (machineF mach) cb2).getD f92 default).thread).toNat : Int)) (fun hg => by simp only [gv_t hg]; exact rp_u8_to_int rfl Tryz.underlying5 Tryz.underlying3 ((bMovesF p (machineF mach) cb2).getD f92 default).thread rfl) ?_; simp only [N]
      refine wl_g (wn_f rfl rfl) (v := iv ((d87 : Nat) : Int)) (fun hg => rp_move rfl (v := iv ((d87 : Nat) : Int)) rfl) ?_; simp only [N]
      refine wl_g (wn_f rfl rfl) (v := .bool (((((bMovesF p (machineF mach) cb2).getD f92 default).thread).toNat : Int) == ((d87 : Nat) : Int))) (fun hg => by simp only [gv_t hg]; exact rp_int_eql rfl ((((bMovesF p (machineF mach) cb2).getD f92 default).thread).toNat : Int) ((d87 : Nat) : Int) rfl rfl) ?_; simp only [N]
      refine wl_g (wn_f rfl rfl) (v := .bool (((((bMovesF p (machineF mach) cb2).getD f92 default).thread).toNat : Int) == ((d87 : Nat) : Int))) (fun hg => by simp only [gv_t hg]; exact rp_move rfl (v := .bool (((((bMovesF p (machineF mach) cb2).getD f92 default).thread).toNat : Int) == ((d87 : Nat) : Int))) rfl) ?_; simp only [N]
      refine wl_g (wn_tg rfl rfl rfl) (v := .pointer (some ⟨b4, 1, none⟩)) (fun hg => rp_fieldAddr rfl Tryz.underlying50 rfl 1 rfl sz4 rfl 1 rfl) ?_; simp only [N]
      refine wl_g (wn_tg rfl rfl rfl) (v := .bool ((bMovesF p (machineF mach) cb2).getD f92 default).drain) (fun hg => by have x16 : ((((bMovesF p (machineF mach) cb2).getD f92 default).thread).toNat : Int) = ((d87 : Nat) : Int) := (by simpa using (andr hg)); exact (by simp only [gv_t hg]; exact rp_load1 H 0 rfl rfl rfl Tryz.underlying4 rfl (v := .bool ((bMovesF p (machineF mach) cb2).getD f92 default).drain) rfl)) ?_; simp only [N]
      refine wl_g (wn_tg rfl rfl rfl) (v := .bool (!((bMovesF p (machineF mach) cb2).getD f92 default).drain)) (fun hg => by have x17 : ((((bMovesF p (machineF mach) cb2).getD f92 default).thread).toNat : Int) = ((d87 : Nat) : Int) := (by simpa using (andr hg)); exact (by simp only [gv_t hg]; exact rp_not rfl ((bMovesF p (machineF mach) cb2).getD f92 default).drain rfl)) ?_; simp only [N]
      refine wl_g (wn_f rfl rfl) (v := .bool ((((((bMovesF p (machineF mach) cb2).getD f92 default).thread).toNat : Int) == ((d87 : Nat) : Int)) && (!((bMovesF p (machineF mach) cb2).getD f92 default).drain))) (fun hg => rp_pickAg rfl (p := (((((bMovesF p (machineF mach) cb2).getD f92 default).thread).toNat : Int) == ((d87 : Nat) : Int))) (q := (!((bMovesF p (machineF mach) cb2).getD f92 default).drain)) hg rfl rfl rfl) ?_; simp only [N]
      refine wr (rp_pickO rfl (p := f20) (q := ((((((bMovesF p (machineF mach) cb2).getD f92 default).thread).toNat : Int) == ((d87 : Nat) : Int)) && (!((bMovesF p (machineF mach) cb2).getD f92 default).drain))) rfl rfl rfl) ?_; simp only [N]
      refine wasg (.bool (f20 || ((((((bMovesF p (machineF mach) cb2).getD f92 default).thread).toNat : Int) == ((d87 : Nat) : Int)) && (!((bMovesF p (machineF mach) cb2).getD f92 default).drain)))) ?_; simp only [N]
      refine wpList_nil ?_
      refine wp_region_lit ?_; refine wmv (.bool f21) ?_; simp only [N]
      refine wmv (.bool f21) ?_; simp only [N]
      refine wl_g (wn_f rfl rfl) (v := .pointer (some ⟨b4, 0, none⟩)) (fun hg => rp_fieldAddr rfl Tryz.underlying50 rfl 0 rfl sz5 rfl 0 rfl) ?_; simp only [N]
      refine wl_g (wn_f rfl rfl) (v := bv ((bMovesF p (machineF mach) cb2).getD f92 default).thread) (fun hg => by simp only [gv_t hg]; exact rp_load1 H 0 rfl rfl rfl Tryz.underlying5 rfl (v := bv ((bMovesF p (machineF mach) cb2).getD f92 default).thread) rfl) ?_; simp only [N]
      refine wl_g (wn_f rfl rfl) (v := iv ((((bMovesF p (machineF mach) cb2).getD f92 default).thread).toNat : Int)) (fun hg => by simp only [gv_t hg]; exact rp_u8_to_int rfl Tryz.underlying5 Tryz.underlying3 ((bMovesF p (machineF mach) cb2).getD f92 default).thread rfl) ?_; simp only [N]
      refine wl_g (wn_f rfl rfl) (v := iv ((d87 : Nat) : Int)) (fun hg => rp_move rfl (v := iv ((d87 : Nat) : Int)) rfl) ?_; simp only [N]
      refine wl_g (wn_f rfl rfl) (v := .bool (((((bMovesF p (machineF mach) cb2).getD f92 default).thread).toNat : Int) == ((d87 : Nat) : Int))) (fun hg => by simp only [gv_t hg]; exact rp_int_eql rfl ((((bMovesF p (machineF mach) cb2).getD f92 default).thread).toNat : Int) ((d87 : Nat) : Int) rfl rfl) ?_; simp only [N]
      refine wl_g (wn_f rfl rfl) (v := .bool (((((bMovesF p (machineF mach) cb2).getD f92 default).thread).toNat : Int) == ((d87 : Nat) : Int))) (fun hg => by simp only [gv_t hg]; exact rp_move rfl (v := .bool (((((bMovesF p (machineF mach) cb2).getD f92 default).thread).toNat : Int) == ((d87 : Nat) : Int))) rfl) ?_; simp only [N]
      refine wl_g (wn_tg rfl rfl rfl) (v := .pointer (some ⟨b4, 1, none⟩)) (fun hg => rp_fieldAddr rfl Tryz.underlying50 rfl 1 rfl sz4 rfl 1 rfl) ?_; simp only [N]
      refine wl_g (wn_tg rfl rfl rfl) (v := .bool ((bMovesF p (machineF mach) cb2).getD f92 default).drain) (fun hg => by have x19 : ((((bMovesF p (machineF mach) cb2).getD f92 default).thread).toNat : Int) = ((d87 : Nat) : Int) := (by simpa using (andr hg)); exact (by simp only [gv_t hg]; exact rp_load1 H 0 rfl rfl rfl Tryz.underlying4 rfl (v := .bool ((bMovesF p (machineF mach) cb2).getD f92 default).drain) rfl)) ?_; simp only [N]
      refine wl_g (wn_f rfl rfl) (v := .bool ((((((bMovesF p (machineF mach) cb2).getD f92 default).thread).toNat : Int) == ((d87 : Nat) : Int)) && ((bMovesF p (machineF mach) cb2).getD f92 default).drain)) (fun hg => rp_pickAg rfl (p := (((((bMovesF p (machineF mach) cb2).getD f92 default).thread).toNat : Int) == ((d87 : Nat) : Int))) (q := ((bMovesF p (machineF mach) cb2).getD f92 default).drain) hg rfl rfl rfl) ?_; simp only [N]
      refine wr (rp_pickO rfl (p := f21) (q := ((((((bMovesF p (machineF mach) cb2).getD f92 default).thread).toNat : Int) == ((d87 : Nat) : Int)) && ((bMovesF p (machineF mach) cb2).getD f92 default).drain)) rfl rfl rfl) ?_; simp only [N]
      refine wasg (.bool (f21 || ((((((bMovesF p (machineF mach) cb2).getD f92 default).thread).toNat : Int) == ((d87 : Nat) : Int)) && ((bMovesF p (machineF mach) cb2).getD f92 default).drain))) ?_; simp only [N]
      refine wpList_nil ?_
      refine wp_region_lit ?_; refine wr (rp_int_add rfl ((f92 : Nat) : Int) (1 : Int) rfl rfl (by omega)) ?_; simp only [N]
      refine wmv (iv (((f92 : Nat) : Int) + (1 : Int))) ?_; simp only [N]
      refine wpList_nil ?_
      replace H := H.dropNew 0 rfl (foot_blk hnb4); simp only [m5, m6] at H
      show ∃ n', n' < _ ∧ _
      refine ⟨_, ?_, (f20 || ((((((bMovesF p (machineF mach) cb2).getD f92 default).thread).toNat : Int) == ((d87 : Nat) : Int)) && (!((bMovesF p (machineF mach) cb2).getD f92 default).drain))), (f21 || ((((((bMovesF p (machineF mach) cb2).getD f92 default).thread).toNat : Int) == ((d87 : Nat) : Int)) && ((bMovesF p (machineF mach) cb2).getD f92 default).drain)), (f92 + 1), (by kernel_rfl), H, (by omega), hFf2.trans (congrFun hrf _), rfl⟩
      omega
     · --F 5
      have hc5N20 : (((bMovesF p (machineF mach) cb2).length : Nat) : Int) ≤ ((f92 : Nat) : Int) := (by simpa using hc5)
      have hFf2 := hFf.trans (loopL_end (show (bMovesF p (machineF mach) cb2).length ≤ f92 by omega))
      refine wp_exit ?_
      refine wp_seq ?_; refine wp_region_lit ?_; refine wmv (iv ((d87 : Nat) : Int)) ?_; simp only [N]
      refine wr (rp_fieldAddr rfl Tryz.underlying41 rfl 0 rfl sz33 rfl 0 rfl) ?_; simp only [N]
      refine wr (rp_indexAddr_arr rfl Tryz.underlying33 sz32 rfl d87 rfl (by omega) (d87 * 9) (by omega)) ?_; simp only [N]
      refine wr (rp_fieldAddr rfl Tryz.underlying32 rfl 0 rfl sz5 rfl (d87 * 9) (by omega)) ?_; simp only [N]
      refine wr (rp_load1A H 1 rfl rfl rfl Tryz.underlying5 rfl (d87 * 9) rfl) ?_; simp only [N]
      refine wr (rp_u8_to_int rfl Tryz.underlying5 Tryz.underlying3 (cb2.getD (d87 * 9) 0) rfl) ?_; simp only [N]
      refine wasg (iv ((cb2.getD (d87 * 9) 0).toNat : Int)) ?_; simp only [N]
      refine wpList_nil ?_
      refine wp_seq ?_; refine wp_seq ?_; refine wp_region_lit ?_; refine wmv (.bool f21) ?_; simp only [N]
      refine wmv (iv ((d87 : Nat) : Int)) ?_; simp only [N]
      refine wr (rp_fieldAddr rfl Tryz.underlying41 rfl 138 rfl sz39 rfl 138 rfl) ?_; simp only [N]
      refine wr (rp_indexAddr_arr rfl Tryz.underlying39 sz5 rfl d87 rfl (by omega) (138 + d87) (by omega)) ?_; simp only [N]
      refine wr (rp_load1A H 1 rfl rfl rfl Tryz.underlying5 rfl (138 + d87) rfl) ?_; simp only [N]
      refine wr (rp_u8_gtr rfl (cb2.getD (138 + d87) 0) (0 : UInt8) rfl rfl) ?_; simp only [N]
      refine wr (rp_bool_neq rfl Tryz.underlying4 f21 (decide ((0 : UInt8) < (cb2.getD (138 + d87) 0))) rfl rfl) ?_; simp only [N]
      refine wmv (.bool (f21 != (decide ((0 : UInt8) < (cb2.getD (138 + d87) 0))))) ?_; simp only [N]
      refine wl_g (wn_f rfl rfl) (v := iv ((cb2.getD (d87 * 9) 0).toNat : Int)) (fun hg => rp_move rfl (v := iv ((cb2.getD (d87 * 9) 0).toNat : Int)) rfl) ?_; simp only [N]
      refine wl_g (wn_f rfl rfl) (v := .pointer (some ⟨b1, 3, none⟩)) (fun hg => rp_fieldAddr rfl Tryz.underlying29 rfl 3 rfl sz24 rfl 3 rfl) ?_; simp only [N]
      refine wl_g (wn_f rfl rfl) (v := p.threads.val) (fun hg => by simp only [gv_t hg]; exact rp_load1 H 3 rfl rfl rfl Tryz.underlying24 rfl (v := p.threads.val) rfl) ?_; simp only [N]
      refine wl_g (wn_f rfl rfl) (v := iv ((d87 : Nat) : Int)) (fun hg => rp_move rfl (v := iv ((d87 : Nat) : Int)) rfl) ?_; simp only [N]
      refine wl_g (wn_f rfl rfl) (v := .pointer (some ⟨p.threads.blk, p.threads.off + d87 * 1, none⟩)) (fun hg => by simp only [gv_t hg]; exact rp_indexAddr_sl (IsProg.threads (H.ro_at 2 rfl)) rfl Tryz.underlying24 sz59 rfl d87 rfl (by omega)) ?_; simp only [N]
      refine wl_g (wn_f rfl rfl) (v := (p.threads.l.getD d87 default).val) (fun hg => by simp only [gv_t hg]; exact rp_load1_sl (IsProg.threads (H.ro_at 2 rfl)) d87 (by omega) rfl Tryz.underlying59 rfl 0 rfl (by omega) (v := (p.threads.l.getD d87 default).val) rfl) ?_; simp only [N]
      refine wl_g (wn_f rfl rfl) (v := iv (((p.threads.l.getD d87 default).l.length : Nat) : Int)) (fun hg => by simp only [gv_t hg]; exact rp_len_sl (s := (p.threads.l.getD d87 default)) Tryz.underlying59 rfl) ?_; simp only [N]
      refine wl_g (wn_f rfl rfl) (v := .bool (decide (((cb2.getD (d87 * 9) 0).toNat : Int) < (((p.threads.l.getD d87 default).l.length : Nat) : Int)))) (fun hg => by simp only [gv_t hg]; exact rp_int_lss rfl ((cb2.getD (d87 * 9) 0).toNat : Int) (((p.threads.l.getD d87 default).l.length : Nat) : Int) rfl rfl) ?_; simp only [N]
      refine wl_g (wn_f rfl rfl) (v := .bool (decide (((cb2.getD (d87 * 9) 0).toNat : Int) < (((p.threads.l.getD d87 default).l.length : Nat) : Int)))) (fun hg => by simp only [gv_t hg]; exact rp_move rfl (v := .bool (decide (((cb2.getD (d87 * 9) 0).toNat : Int) < (((p.threads.l.getD d87 default).l.length : Nat) : Int)))) rfl) ?_; simp only [N]
      refine wl_g (wn_tg rfl rfl rfl) (v := .bool f20) (fun hg => rp_move rfl (v := .bool f20) rfl) ?_; simp only [N]
      refine wl_g (wn_tg rfl rfl rfl) (v := .bool (!f20)) (fun hg => by have x22 : ((cb2.getD (d87 * 9) 0).toNat : Int) < (((p.threads.l.getD d87 default).l.length : Nat) : Int) := (by simpa using (andr hg)); exact (by simp only [gv_t hg]; exact rp_not rfl f20 rfl)) ?_; simp only [N]
      refine wl_g (wn_f rfl rfl) (v := .bool ((decide (((cb2.getD (d87 * 9) 0).toNat : Int) < (((p.threads.l.getD d87 default).l.length : Nat) : Int))) && (!f20))) (fun hg => rp_pickAg rfl (p := (decide (((cb2.getD (d87 * 9) 0).toNat : Int) < (((p.threads.l.getD d87 default).l.length : Nat) : Int)))) (q := (!f20)) hg rfl rfl rfl) ?_; simp only [N]
      refine wl_g (wn_f rfl rfl) (v := .bool ((decide (((cb2.getD (d87 * 9) 0).toNat : Int) < (((p.threads.l.getD d87 default).l.length : Nat) : Int))) && (!f20))) (fun hg => by simp only [gv_t hg]; exact rp_move rfl (v := .bool ((decide (((cb2.getD (d87 * 9) 0).toNat : Int) < (((p.threads.l.getD d87 default).l.length : Nat) : Int))) && (!f20))) rfl) ?_; simp only [N]
      refine wl_g (wn_tg rfl rfl rfl) (v := .bool f21) (fun hg => rp_move rfl (v := .bool f21) rfl) ?_; simp only [N]
      refine wl_g (wn_tg rfl rfl rfl) (v := .bool (!f21)) (fun hg => by have x24 : ((cb2.getD (d87 * 9) 0).toNat : Int) < (((p.threads.l.getD d87 default).l.length : Nat) : Int) := (by simpa using (andl (andr hg))); exact (by simp only [gv_t hg]; exact rp_not rfl f21 rfl)) ?_; simp only [N]
      refine wl_g (wn_f rfl rfl) (v := .bool (((decide (((cb2.getD (d87 * 9) 0).toNat : Int) < (((p.threads.l.getD d87 default).l.length : Nat) : Int))) && (!f20)) && (!f21))) (fun hg => rp_pickAg rfl (p := ((decide (((cb2.getD (d87 * 9) 0).toNat : Int) < (((p.threads.l.getD d87 default).l.length : Nat) : Int))) && (!f20))) (q := (!f21)) hg rfl rfl rfl) ?_; simp only [N]
      refine wr (rp_pickO rfl (p := (f21 != (decide ((0 : UInt8) < (cb2.getD (138 + d87) 0))))) (q := (((decide (((cb2.getD (d87 * 9) 0).toNat : Int) < (((p.threads.l.getD d87 default).l.length : Nat) : Int))) && (!f20)) && (!f21))) rfl rfl rfl) ?_; simp only [N]
      refine wmv (.bool ((f21 != (decide ((0 : UInt8) < (cb2.getD (138 + d87) 0)))) || (((decide (((cb2.getD (d87 * 9) 0).toNat : Int) < (((p.threads.l.getD d87 default).l.length : Nat) : Int))) && (!f20)) && (!f21)))) ?_; simp only [N]
      refine wl_g (wn_f rfl rfl) (v := iv ((cb2.getD (d87 * 9) 0).toNat : Int)) (fun hg => rp_move rfl (v := iv ((cb2.getD (d87 * 9) 0).toNat : Int)) rfl) ?_; simp only [N]
      refine wl_g (wn_f rfl rfl) (v := .pointer (some ⟨b1, 3, none⟩)) (fun hg => rp_fieldAddr rfl Tryz.underlying29 rfl 3 rfl sz24 rfl 3 rfl) ?_; simp only [N]
      refine wl_g (wn_f rfl rfl) (v := p.threads.val) (fun hg => by simp only [gv_t hg]; exact rp_load1 H 3 rfl rfl rfl Tryz.underlying24 rfl (v := p.threads.val) rfl) ?_; simp only [N]
      refine wl_g (wn_f rfl rfl) (v := iv ((d87 : Nat) : Int)) (fun hg => rp_move rfl (v := iv ((d87 : Nat) : Int)) rfl) ?_; simp only [N]
      refine wl_g (wn_f rfl rfl) (v := .pointer (some ⟨p.threads.blk, p.threads.off + d87 * 1, none⟩)) (fun hg => by simp only [gv_t hg]; exact rp_indexAddr_sl (IsProg.threads (H.ro_at 2 rfl)) rfl Tryz.underlying24 sz59 rfl d87 rfl (by omega)) ?_; simp only [N]
      refine wl_g (wn_f rfl rfl) (v := (p.threads.l.getD d87 default).val) (fun hg => by simp only [gv_t hg]; exact rp_load1_sl (IsProg.threads (H.ro_at 2 rfl)) d87 (by omega) rfl Tryz.underlying59 rfl 0 rfl (by omega) (v := (p.threads.l.getD d87 default).val) rfl) ?_; simp only [N]
      refine wl_g (wn_f rfl rfl) (v := iv (((p.threads.l.getD d87 default).l.length : Nat) : Int)) (fun hg => by simp only [gv_t hg]; exact rp_len_sl (s := (p.threads.l.getD d87 default)) Tryz.underlying59 rfl) ?_; simp only [N]
      refine wl_g (wn_f rfl rfl) (v := .bool (decide ((((p.threads.l.getD d87 default).l.length : Nat) : Int) ≤ ((cb2.getD (d87 * 9) 0).toNat : Int)))) (fun hg => by simp only [gv_t hg]; exact rp_int_geq rfl ((cb2.getD (d87 * 9) 0).toNat : Int) (((p.threads.l.getD d87 default).l.length : Nat) : Int) rfl rfl) ?_; simp only [N]
      refine wl_g (wn_f rfl rfl) (v := .bool (decide ((((p.threads.l.getD d87 default).l.length : Nat) : Int) ≤ ((cb2.getD (d87 * 9) 0).toNat : Int)))) (fun hg => by simp only [gv_t hg]; exact rp_move rfl (v := .bool (decide ((((p.threads.l.getD d87 default).l.length : Nat) : Int) ≤ ((cb2.getD (d87 * 9) 0).toNat : Int)))) rfl) ?_; simp only [N]
      refine wl_g (wn_tg rfl rfl rfl) (v := .bool f20) (fun hg => rp_move rfl (v := .bool f20) rfl) ?_; simp only [N]
      refine wl_g (wn_f rfl rfl) (v := .bool ((decide ((((p.threads.l.getD d87 default).l.length : Nat) : Int) ≤ ((cb2.getD (d87 * 9) 0).toNat : Int))) && f20)) (fun hg => rp_pickAg rfl (p := (decide ((((p.threads.l.getD d87 default).l.length : Nat) : Int) ≤ ((cb2.getD (d87 * 9) 0).toNat : Int)))) (q := f20) hg rfl rfl rfl) ?_; simp only [N]
      refine wr (rp_pickO rfl (p := ((f21 != (decide ((0 : UInt8) < (cb2.getD (138 + d87) 0)))) || (((decide (((cb2.getD (d87 * 9) 0).toNat : Int) < (((p.threads.l.getD d87 default).l.length : Nat) : Int))) && (!f20)) && (!f21)))) (q := ((decide ((((p.threads.l.getD d87 default).l.length : Nat) : Int) ≤ ((cb2.getD (d87 * 9) 0).toNat : Int))) && f20)) rfl rfl rfl) ?_; simp only [N]
      refine wpList_nil ?_
      refine wp_cond_split rfl (fun hc6 => ?_) (fun hc6 => ?_)
      · --T 6
       refine wp_seq ?_; refine wp_region_lit ?_; refine wasg (.bool false) ?_; simp only [N]
       refine wpList_nil ?_
       refine wp_ret ?_
       try simp only [Exit.inBlock, Exit.then, cutP]
       refine bodyPost_ret (results1 rfl (rv_tmp rfl)) rfl ?_
       have hF : (waitsF p mach picks.l) = false := hFf2.trans (bt hc6)
       rw [hF]
       exact ⟨rfl, H.ext⟩
      · --F 6
       refine wp_skip ?_
       refine wp_seq ?_; refine wp_region_lit ?_; refine wmv (.bool f20) ?_; simp only [N]
       refine wmv (.bool f20) ?_; simp only [N]
       refine wl_g (wn_t rfl rfl) (v := iv ((d87 : Nat) : Int)) (fun hg => rp_move rfl (v := iv ((d87 : Nat) : Int)) rfl) ?_; simp only [N]
       refine wl_g (wn_t rfl rfl) (v := .pointer (some ⟨b2, 138, none⟩)) (fun hg => rp_fieldAddr rfl Tryz.underlying41 rfl 138 rfl sz39 rfl 138 rfl) ?_; simp only [N]
       refine wl_g (wn_t rfl rfl) (v := .pointer (some ⟨b2, 138 + d87, none⟩)) (fun hg => by simp only [gv_t hg]; exact rp_indexAddr_arr rfl Tryz.underlying39 sz5 rfl d87 rfl (by omega) (138 + d87) (by omega)) ?_; simp only [N]
       refine wl_g (wn_t rfl rfl) (v := bv (cb2.getD (138 + d87) 0)) (fun hg => by simp only [gv_t hg]; exact rp_load1A H 1 rfl rfl rfl Tryz.underlying5 rfl (138 + d87) rfl) ?_; simp only [N]
       refine wl_g (wn_t rfl rfl) (v := .bool (decide ((0 : UInt8) < (cb2.getD (138 + d87) 0)))) (fun hg => by simp only [gv_t hg]; exact rp_u8_gtr rfl (cb2.getD (138 + d87) 0) (0 : UInt8) rfl rfl) ?_; simp only [N]
       refine wr (rp_pickA rfl (p := f20) (q := (decide ((0 : UInt8) < (cb2.getD (138 + d87) 0)))) rfl rfl rfl) ?_; simp only [N]
       refine wpList_nil ?_
       refine wp_cond_split rfl (fun hc7 => ?_) (fun hc7 => ?_)
       · --T 7
        have hc7N26 : 0 < (cb2.getD (138 + d87) 0).toNat := u8_lt (andr hc7)
        have hpc7 : (cb2.getD (d87 * 9) 0).toNat < (p.threads.l.getD d87 default).l.length := by
          have h := orr hc6
          rw [andl hc7, Bool.and_true] at h
          have := of_decide_eq_false h
          omega
        refine wp_seq ?_; refine wp_region_lit ?_; refine wr (rp_fieldAddr rfl Tryz.underlying29 rfl 3 rfl sz24 rfl 3 rfl) ?_; simp only [N]
        refine wr (rp_load1 H 3 rfl rfl rfl Tryz.underlying24 rfl (v := p.threads.val) rfl) ?_; simp only [N]
        refine wmv (iv ((d87 : Nat) : Int)) ?_; simp only [N]
        refine wr (rp_indexAddr_sl (IsProg.threads (H.ro_at 2 rfl)) rfl Tryz.underlying24 sz59 rfl d87 rfl (by omega)) ?_; simp only [N]
        refine wr (rp_load1_sl (IsProg.threads (H.ro_at 2 rfl)) d87 (by omega) rfl Tryz.underlying59 rfl 0 rfl (by omega) (v := (p.threads.l.getD d87 default).val) rfl) ?_; simp only [N]
        refine wmv (iv ((cb2.getD (d87 * 9) 0).toNat : Int)) ?_; simp only [N]
        refine wr (rp_indexAddr_sl (IsProg.ins_at (H.ro_at 2 rfl) (t := d87) (by omega)) rfl Tryz.underlying59 sz58 rfl (cb2.getD (d87 * 9) 0).toNat rfl (by omega)) ?_; simp only [N]
        refine wr (rp_loadN_sl (IsProg.ins_at (H.ro_at 2 rfl) (t := d87) (by omega)) ((cb2.getD (d87 * 9) 0).toNat) (by omega) rfl Tryz.underlying58 rfl rfl sz58) ?_; simp only [N]
        refine wl_alloc H rfl rfl zv58 ?_
        clear H; intro b5 w20 hnb5 H; dsimp only [Value.cells] at H
        simp only [N]
        refine wl_storeV H 0 rfl rfl rfl rfl ((((p.threads.l.getD d87 default).l.getD ((cb2.getD (d87 * 9) 0).toNat) default).cells).toArray) rfl (Ins.cells_one _) sz58 ?_
        clear H; intro w21 H; simp only [M] at H
        simp only [N]
        refine wpList_nil ?_
        refine wp_seq ?_; refine wp_region_lit ?_; refine wr (rp_fieldAddr rfl Tryz.underlying58 rfl 0 rfl sz5 rfl 0 rfl) ?_; simp only [N]
        refine wr (rp_load1 H 0 rfl rfl rfl Tryz.underlying5 rfl (v := bv ((p.threads.l.getD d87 default).l.getD ((cb2.getD (d87 * 9) 0).toNat) default).op) rfl) ?_; simp only [N]
        refine wr (rp_u8_geq rfl ((p.threads.l.getD d87 default).l.getD ((cb2.getD (d87 * 9) 0).toNat) default).op (4 : UInt8) rfl rfl) ?_; simp only [N]
        refine wmv (.bool (decide ((4 : UInt8) ≤ ((p.threads.l.getD d87 default).l.getD ((cb2.getD (d87 * 9) 0).toNat) default).op))) ?_; simp only [N]
        refine wl_g (wn_t rfl rfl) (v := .pointer (some ⟨b5, 0, none⟩)) (fun hg => rp_fieldAddr rfl Tryz.underlying58 rfl 0 rfl sz5 rfl 0 rfl) ?_; simp only [N]
        refine wl_g (wn_t rfl rfl) (v := bv ((p.threads.l.getD d87 default).l.getD ((cb2.getD (d87 * 9) 0).toNat) default).op) (fun hg => by have x28 : 4 ≤ (((p.threads.l.getD d87 default).l.getD ((cb2.getD (d87 * 9) 0).toNat) default).op).toNat := u8_le hg; exact (by simp only [gv_t hg]; exact rp_load1 H 0 rfl rfl rfl Tryz.underlying5 rfl (v := bv ((p.threads.l.getD d87 default).l.getD ((cb2.getD (d87 * 9) 0).toNat) default).op) rfl)) ?_; simp only [N]
        refine wl_g (wn_t rfl rfl) (v := .bool (decide (((p.threads.l.getD d87 default).l.getD ((cb2.getD (d87 * 9) 0).toNat) default).op ≤ (6 : UInt8)))) (fun hg => by have x29 : 4 ≤ (((p.threads.l.getD d87 default).l.getD ((cb2.getD (d87 * 9) 0).toNat) default).op).toNat := u8_le hg; exact (by simp only [gv_t hg]; exact rp_u8_leq rfl ((p.threads.l.getD d87 default).l.getD ((cb2.getD (d87 * 9) 0).toNat) default).op (6 : UInt8) rfl rfl)) ?_; simp only [N]
        refine wr (rp_pickA rfl (p := (decide ((4 : UInt8) ≤ ((p.threads.l.getD d87 default).l.getD ((cb2.getD (d87 * 9) 0).toNat) default).op))) (q := (decide (((p.threads.l.getD d87 default).l.getD ((cb2.getD (d87 * 9) 0).toNat) default).op ≤ (6 : UInt8)))) rfl rfl rfl) ?_; simp only [N]
        refine wmv (.bool ((decide ((4 : UInt8) ≤ ((p.threads.l.getD d87 default).l.getD ((cb2.getD (d87 * 9) 0).toNat) default).op)) && (decide (((p.threads.l.getD d87 default).l.getD ((cb2.getD (d87 * 9) 0).toNat) default).op ≤ (6 : UInt8))))) ?_; simp only [N]
        refine wl_g (wn_f rfl rfl) (v := .pointer (some ⟨b5, 0, none⟩)) (fun hg => rp_fieldAddr rfl Tryz.underlying58 rfl 0 rfl sz5 rfl 0 rfl) ?_; simp only [N]
        refine wl_g (wn_f rfl rfl) (v := bv ((p.threads.l.getD d87 default).l.getD ((cb2.getD (d87 * 9) 0).toNat) default).op) (fun hg => by simp only [gv_t hg]; exact rp_load1 H 0 rfl rfl rfl Tryz.underlying5 rfl (v := bv ((p.threads.l.getD d87 default).l.getD ((cb2.getD (d87 * 9) 0).toNat) default).op) rfl) ?_; simp only [N]
        refine wl_g (wn_f rfl rfl) (v := .bool (((p.threads.l.getD d87 default).l.getD ((cb2.getD (d87 * 9) 0).toNat) default).op == (7 : UInt8))) (fun hg => by simp only [gv_t hg]; exact rp_u8_eql rfl ((p.threads.l.getD d87 default).l.getD ((cb2.getD (d87 * 9) 0).toNat) default).op (7 : UInt8) rfl rfl) ?_; simp only [N]
        refine wl_g (wn_f rfl rfl) (v := .bool (((p.threads.l.getD d87 default).l.getD ((cb2.getD (d87 * 9) 0).toNat) default).op == (7 : UInt8))) (fun hg => by simp only [gv_t hg]; exact rp_move rfl (v := .bool (((p.threads.l.getD d87 default).l.getD ((cb2.getD (d87 * 9) 0).toNat) default).op == (7 : UInt8))) rfl) ?_; simp only [N]
        refine wl_g (wn_tg rfl rfl rfl) (v := .pointer (some ⟨b5, 8, none⟩)) (fun hg => rp_fieldAddr rfl Tryz.underlying58 rfl 8 rfl sz5 rfl 8 rfl) ?_; simp only [N]
        refine wl_g (wn_tg rfl rfl rfl) (v := bv ((p.threads.l.getD d87 default).l.getD ((cb2.getD (d87 * 9) 0).toNat) default).mode) (fun hg => by have x31 : (((p.threads.l.getD d87 default).l.getD ((cb2.getD (d87 * 9) 0).toNat) default).op).toNat = 7 := u8_eq (andr hg); exact (by simp only [gv_t hg]; exact rp_load1 H 0 rfl rfl rfl Tryz.underlying5 rfl (v := bv ((p.threads.l.getD d87 default).l.getD ((cb2.getD (d87 * 9) 0).toNat) default).mode) rfl)) ?_; simp only [N]
        refine wl_g (wn_tg rfl rfl rfl) (v := .bool (((p.threads.l.getD d87 default).l.getD ((cb2.getD (d87 * 9) 0).toNat) default).mode == (3 : UInt8))) (fun hg => by have x32 : (((p.threads.l.getD d87 default).l.getD ((cb2.getD (d87 * 9) 0).toNat) default).op).toNat = 7 := u8_eq (andr hg); exact (by simp only [gv_t hg]; exact rp_u8_eql rfl ((p.threads.l.getD d87 default).l.getD ((cb2.getD (d87 * 9) 0).toNat) default).mode (3 : UInt8) rfl rfl)) ?_; simp only [N]
        refine wl_g (wn_f rfl rfl) (v := .bool ((((p.threads.l.getD d87 default).l.getD ((cb2.getD (d87 * 9) 0).toNat) default).op == (7 : UInt8)) && (((p.threads.l.getD d87 default).l.getD ((cb2.getD (d87 * 9) 0).toNat) default).mode == (3 : UInt8)))) (fun hg => rp_pickAg rfl (p := (((p.threads.l.getD d87 default).l.getD ((cb2.getD (d87 * 9) 0).toNat) default).op == (7 : UInt8))) (q := (((p.threads.l.getD d87 default).l.getD ((cb2.getD (d87 * 9) 0).toNat) default).mode == (3 : UInt8))) hg rfl rfl rfl) ?_; simp only [N]
        refine wr (rp_pickO rfl (p := ((decide ((4 : UInt8) ≤ ((p.threads.l.getD d87 default).l.getD ((cb2.getD (d87 * 9) 0).toNat) default).op)) && (decide (((p.threads.l.getD d87 default).l.getD ((cb2.getD (d87 * 9) 0).toNat) default).op ≤ (6 : UInt8))))) (q := ((((p.threads.l.getD d87 default).l.getD ((cb2.getD (d87 * 9) 0).toNat) default).op == (7 : UInt8)) && (((p.threads.l.getD d87 default).l.getD ((cb2.getD (d87 * 9) 0).toNat) default).mode == (3 : UInt8)))) rfl rfl rfl) ?_; simp only [N]
        refine wpList_nil ?_
        refine wp_cond_split rfl (fun hc8 => ?_) (fun hc8 => ?_)
        · --T 8
         refine wp_seq ?_; refine wp_region_lit ?_; refine wasg (.bool false) ?_; simp only [N]
         refine wpList_nil ?_
         refine wp_ret ?_
         try simp only [Exit.inBlock, Exit.then, cutP]
         refine bodyPost_ret (results1 rfl (rv_tmp rfl)) rfl ?_
         have hF : (waitsF p mach picks.l) = false := hFf2.trans ((bf hc6).trans ((bt hc7).trans (bt hc8)))
         rw [hF]
         exact ⟨rfl, H.ext⟩
        · --F 8
         refine wp_skip ?_
         refine wp_region_lit ?_; refine wr (rp_int_add rfl ((d87 : Nat) : Int) (1 : Int) rfl rfl (by omega)) ?_; simp only [N]
         refine wmv (iv (((d87 : Nat) : Int) + (1 : Int))) ?_; simp only [N]
         refine wpList_nil ?_
         replace H := H.dropNew 0 rfl (foot_blk hnb5); simp only [m5, m6] at H
         show ∃ n', n' < _ ∧ _
         refine ⟨_, ?_, (d87 + 1), (by kernel_rfl), H, (by omega), (hFf2.trans ((bf hc6).trans ((bt hc7).trans (bf hc8)))).trans (congrFun hrd _), rfl⟩
         omega
       · --F 7
        refine wp_skip ?_
        refine wp_region_lit ?_; refine wr (rp_int_add rfl ((d87 : Nat) : Int) (1 : Int) rfl rfl (by omega)) ?_; simp only [N]
        refine wmv (iv (((d87 : Nat) : Int) + (1 : Int))) ?_; simp only [N]
        refine wpList_nil ?_
        show ∃ n', n' < _ ∧ _
        refine ⟨_, ?_, (d87 + 1), (by kernel_rfl), H, (by omega), (hFf2.trans ((bf hc6).trans (bf hc7))).trans (congrFun hrd _), rfl⟩
        omega
    · --F 4
     have hc4N33 : ((p.threads.l.length : Nat) : Int) ≤ ((d87 : Nat) : Int) := (by simpa using hc4)
     have hFd2 := hFd.trans (loopL_end (show p.threads.l.length ≤ d87 by omega))
     refine wp_exit ?_
     refine wp_seq ?_; refine wp_region_lit ?_; refine wr (rp_loadN H 3 rfl rfl rfl Tryz.underlying29 rfl sz29 (Nat.le_of_ble_eq_true rfl) (cs' := p.cells) rfl) ?_; simp only [N]
     refine wmv (bv (machineF mach)) ?_; simp only [N]
     refine wr (rp_loadWA H 1 rfl rfl rfl Tryz.underlying41 rfl sz41 rfl) ?_; simp only [N]
     refine wr (rp_loadN H 0 rfl rfl rfl Tryz.underlying50 rfl sz50 (Nat.le_of_ble_eq_true rfl) (cs' := ((bPlayF p (machineF mach) (picks.l.take (min picks.l.length 100))).2.1.getD c76 default).cells) rfl) ?_; simp only [N]
     refine wl_callE H rfl (rc_go Tryz.func13 (by kernel_rfl) rfl) (bMoveF_spec p (machineF mach) cb2 ((bPlayF p (machineF mach) (picks.l.take (min picks.l.length 100))).2.1.getD c76 default) (by first | omega | simp [-List.reduceReplicate] <;> omega | simp [*, -List.reduceReplicate] <;> omega) _ (H.ro_at 2 rfl) (H.ro_at 4 rfl)) ?_
     clear H; intro w22 H
     simp only [N]
     generalize hv206 : (bMoveF p (machineF mach) cb2 ((bPlayF p (machineF mach) (picks.l.take (min picks.l.length 100))).2.1.getD c76 default)) = v206
     have hFv206 : (waitsF p mach picks.l) = waitsF_v206 p mach c76 rc v206 := by first | (rw [← hv206]; exact hFd2) | exact hFd2
     have hlv206 : (v206.1).length = 142 := by rw [← hv206]; first | omega | simp [-List.reduceReplicate] <;> omega | simp [*, -List.reduceReplicate] <;> omega
     refine wmv (.tuple #[.agg (enc v206.1).toArray, iv v206.2]) ?_; simp only [N]
     refine wr (rp_extract rfl rfl (v := .agg (enc v206.1).toArray) rfl) ?_; simp only [N]
     refine wr (rp_extract rfl rfl (v := iv v206.2) rfl) ?_; simp only [N]
     refine wl_storeA H 1 rfl rfl rfl rfl v206.1 rfl sz41 ?_
     clear H; intro w23 H; simp only [M] at H
     simp only [N]
     refine wasg (iv v206.2) ?_; simp only [N]
     refine wpList_nil ?_
     refine wp_seq ?_; refine wp_region_lit ?_; refine wmv (iv v206.2) ?_; simp only [N]
     refine wr (rp_int_neq rfl v206.2 (0 : Int) rfl rfl) ?_; simp only [N]
     refine wmv (.bool (v206.2 != (0 : Int))) ?_; simp only [N]
     refine wl_g (wn_f rfl rfl) (v := .agg (p.cells).toArray) (fun hg => rp_loadN H 3 rfl rfl rfl Tryz.underlying29 rfl sz29 (Nat.le_of_ble_eq_true rfl) (cs' := p.cells) rfl) ?_; simp only [N]
     refine wl_g (wn_f rfl rfl) (v := bv (machineF mach)) (fun hg => rp_move rfl (v := bv (machineF mach)) rfl) ?_; simp only [N]
     refine wl_g (wn_f rfl rfl) (v := .agg (enc v206.1).toArray) (fun hg => rp_loadWA H 1 rfl rfl rfl Tryz.underlying41 rfl sz41 rfl) ?_; simp only [N]
     refine wl_gE H (wn_f rfl rfl) (fun hg => fun w => by simp only [gv_t hg]; exact rc_go Tryz.func22 (by kernel_rfl) rfl w) (v := .bool (bRightF p (machineF mach) v206.1)) (fun hg => by have x37 : v206.2 = (0 : Int) := (by simpa using (notT hg)); exact (bRightF_spec p (machineF mach) v206.1 (by first | omega | simp [-List.reduceReplicate] <;> omega | simp [*, -List.reduceReplicate] <;> omega) _ (H.ro_at 2 rfl) (H.ro_at 4 rfl))) ?_
     clear H; intro w24 H
     simp only [N]
     refine wl_g (wn_f rfl rfl) (v := .bool (!(bRightF p (machineF mach) v206.1))) (fun hg => by have x38 : v206.2 = (0 : Int) := (by simpa using (notT hg)); exact (by simp only [gv_t hg]; exact rp_not rfl (bRightF p (machineF mach) v206.1) rfl)) ?_; simp only [N]
     refine wr (rp_pickO rfl (p := (v206.2 != (0 : Int))) (q := (!(bRightF p (machineF mach) v206.1))) rfl rfl rfl) ?_; simp only [N]
     refine wpList_nil ?_
     refine wp_cond_split rfl (fun hc9 => ?_) (fun hc9 => ?_)
     · --T 9
      refine wp_seq ?_; refine wp_region_lit ?_; refine wasg (.bool false) ?_; simp only [N]
      refine wpList_nil ?_
      refine wp_ret ?_
      try simp only [Exit.inBlock, Exit.then, cutP]
      refine bodyPost_ret (results1 rfl (rv_tmp rfl)) rfl ?_
      have hF : (waitsF p mach picks.l) = false := hFv206.trans (bt hc9)
      rw [hF]
      exact ⟨rfl, H.ext⟩
     · --F 9
      have hc9N39 : v206.2 = (0 : Int) := (by simpa using (orl hc9))
      refine wp_skip ?_
      refine wp_region_lit ?_; refine wr (rp_int_add rfl ((c76 : Nat) : Int) (1 : Int) rfl rfl (by omega)) ?_; simp only [N]
      refine wmv (iv (((c76 : Nat) : Int) + (1 : Int))) ?_; simp only [N]
      refine wpList_nil ?_
      replace H := H.dropNew 0 rfl (foot_blk hnb3); simp only [m5, m6] at H
      replace H := H.facts (R' := [SlIn 3 Pass.cells (⟨xd36_.1, xd36_.2, (bPlayF p (machineF mach) (picks.l.take (min picks.l.length 100))).2.1⟩ : Sl Pass), IsProg p, SlIn 1 eByte picks, Glob]) (by first | exact fun _ h => h | simp)
      show ∃ n', n' < _ ∧ _
      refine ⟨_, ?_, (c76 + 1), v206.1, (by kernel_rfl), H, (by first | omega | simp [-List.reduceReplicate] <;> omega | simp [*, -List.reduceReplicate] <;> omega), (by omega), (hFv206.trans (bf hc9)).trans (congrFun hrc _), rfl⟩
      omega
   · --F 3
    have hc3N40 : (((bPlayF p (machineF mach) (picks.l.take (min picks.l.length 100))).2.1.length : Nat) : Int) ≤ ((c76 : Nat) : Int) := (by simpa using hc3)
    have hFc2 := hFc.trans (loopL_end (show (bPlayF p (machineF mach) (picks.l.take (min picks.l.length 100))).2.1.length ≤ c76 by omega))
    refine wp_exit ?_
    refine wp_seq ?_; refine wp_region_lit ?_; refine wmv ((⟨xd36_.1, xd36_.2, (bPlayF p (machineF mach) (picks.l.take (min picks.l.length 100))).2.1⟩ : Sl Pass).val) ?_; simp only [N]
    refine wr (rp_len_sl (s := (⟨xd36_.1, xd36_.2, (bPlayF p (machineF mach) (picks.l.take (min picks.l.length 100))).2.1⟩ : Sl Pass)) Tryz.underlying44 rfl) ?_; simp only [N]
    refine wmv (iv ((b13 : Nat) : Int)) ?_; simp only [N]
    refine wr (rp_int_mul rfl (2 : Int) ((b13 : Nat) : Int) rfl rfl (by omega)) ?_; simp only [N]
    refine wr (rp_int_leq rfl (((bPlayF p (machineF mach) (picks.l.take (min picks.l.length 100))).2.1.length : Nat) : Int) ((2 : Int) * ((b13 : Nat) : Int)) rfl rfl) ?_; simp only [N]
    refine wmv (.bool (decide ((((bPlayF p (machineF mach) (picks.l.take (min picks.l.length 100))).2.1.length : Nat) : Int) ≤ ((2 : Int) * ((b13 : Nat) : Int))))) ?_; simp only [N]
    refine wl_g (wn_t rfl rfl) (v := .agg (p.cells).toArray) (fun hg => rp_loadN H 2 rfl rfl rfl Tryz.underlying29 rfl sz29 (Nat.le_of_ble_eq_true rfl) (cs' := p.cells) rfl) ?_; simp only [N]
    refine wl_g (wn_t rfl rfl) (v := bv (machineF mach)) (fun hg => rp_move rfl (v := bv (machineF mach)) rfl) ?_; simp only [N]
    refine wl_g (wn_t rfl rfl) (v := .agg (enc cb2).toArray) (fun hg => rp_loadWA H 0 rfl rfl rfl Tryz.underlying41 rfl sz41 rfl) ?_; simp only [N]
    refine wl_gE H (wn_t rfl rfl) (fun hg => fun w => by simp only [gv_t hg]; exact rc_go Tryz.func19 (by kernel_rfl) rfl w) (v := .bool (bOverF p (machineF mach) cb2)) (fun hg => by have x44 : (((bPlayF p (machineF mach) (picks.l.take (min picks.l.length 100))).2.1.length : Nat) : Int) ≤ ((2 : Int) * ((b13 : Nat) : Int)) := (by simpa using hg); exact (bOverF_spec p (machineF mach) cb2 (by first | omega | simp [-List.reduceReplicate] <;> omega | simp [*, -List.reduceReplicate] <;> omega) _ (H.ro_at 1 rfl) (H.ro_at 3 rfl))) ?_
    clear H; intro w25 H
    simp only [N]
    refine wr (rp_pickA rfl (p := (decide ((((bPlayF p (machineF mach) (picks.l.take (min picks.l.length 100))).2.1.length : Nat) : Int) ≤ ((2 : Int) * ((b13 : Nat) : Int))))) (q := (bOverF p (machineF mach) cb2)) rfl rfl rfl) ?_; simp only [N]
    refine wmv (.bool ((decide ((((bPlayF p (machineF mach) (picks.l.take (min picks.l.length 100))).2.1.length : Nat) : Int) ≤ ((2 : Int) * ((b13 : Nat) : Int)))) && (bOverF p (machineF mach) cb2))) ?_; simp only [N]
    refine wl_g (wn_t rfl rfl) (v := .pointer (some ⟨b2, 138, none⟩)) (fun hg => rp_fieldAddr rfl Tryz.underlying41 rfl 138 rfl sz39 rfl 138 rfl) ?_; simp only [N]
    refine wl_g (wn_t rfl rfl) (v := .agg (enc ((cb2.drop 138).take 4)).toArray) (fun hg => by have x46 : (((bPlayF p (machineF mach) (picks.l.take (min picks.l.length 100))).2.1.length : Nat) : Int) ≤ ((2 : Int) * ((b13 : Nat) : Int)) := (by simpa using (andl hg)); exact (by simp only [gv_t hg]; exact rp_loadNA H 0 rfl rfl rfl Tryz.underlying39 rfl sz39 138)) ?_; simp only [N]
    refine wl_g (wn_t rfl rfl) (v := .agg (enc (List.replicate 4 (0 : UInt8))).toArray) (fun hg => rp_build rfl (vs := []) rfl (cs := (enc (List.replicate 4 (0 : UInt8))).toArray) (by kernel_rfl)) ?_; simp only [N]
    refine wl_g (wn_t rfl rfl) (v := .bool (decide (((cb2.drop 138).take 4) = (List.replicate 4 (0 : UInt8))))) (fun hg => by have x48 : (((bPlayF p (machineF mach) (picks.l.take (min picks.l.length 100))).2.1.length : Nat) : Int) ≤ ((2 : Int) * ((b13 : Nat) : Int)) := (by simpa using (andl hg)); exact (by simp only [gv_t hg]; exact rp_eql_leafs rfl 6 (by decide) (by kernel_rfl) (by kernel_rfl) (ks := (List.replicate 4 (.int .u8))) (by kernel_rfl) (xs := enc ((cb2.drop 138).take 4)) (ys := enc (List.replicate 4 (0 : UInt8))) rfl rfl (formed_enc Tryz.underlying39 rfl sz39 (by first | omega | simp [-List.reduceReplicate] <;> omega | simp [*, -List.reduceReplicate] <;> omega)) (formed_enc Tryz.underlying39 rfl sz39 (by first | omega | simp [-List.reduceReplicate] <;> omega | simp [*, -List.reduceReplicate] <;> omega)) (fits_enc (by first | omega | simp [-List.reduceReplicate] <;> omega | simp [*, -List.reduceReplicate] <;> omega)) (fits_enc (by first | omega | simp [-List.reduceReplicate] <;> omega | simp [*, -List.reduceReplicate] <;> omega)) (r := (decide (((cb2.drop 138).take 4) = (List.replicate 4 (0 : UInt8))))) (by exact enc_iff _ _))) ?_; simp only [N]
    refine wr (rp_pickA rfl (p := ((decide ((((bPlayF p (machineF mach) (picks.l.take (min picks.l.length 100))).2.1.length : Nat) : Int) ≤ ((2 : Int) * ((b13 : Nat) : Int)))) && (bOverF p (machineF mach) cb2))) (q := (decide (((cb2.drop 138).take 4) = (List.replicate 4 (0 : UInt8))))) rfl rfl rfl) ?_; simp only [N]
    refine wmv (.bool (((decide ((((bPlayF p (machineF mach) (picks.l.take (min picks.l.length 100))).2.1.length : Nat) : Int) ≤ ((2 : Int) * ((b13 : Nat) : Int)))) && (bOverF p (machineF mach) cb2)) && (decide (((cb2.drop 138).take 4) = (List.replicate 4 (0 : UInt8)))))) ?_; simp only [N]
    refine wl_gE H (wn_t rfl rfl) (fun hg => rc_go Tryz.func12 (by kernel_rfl) rfl) (v := .bool true) (fun hg => by have x49 : (((bPlayF p (machineF mach) (picks.l.take (min picks.l.length 100))).2.1.length : Nat) : Int) ≤ ((2 : Int) * ((b13 : Nat) : Int)) := (by simpa using (andl (andl hg))); exact (awakeB_spec' _ (H.ro_at 3 rfl))) ?_
    clear H; intro w26 H
    simp only [N]
    refine wr (rp_pickA rfl (p := (((decide ((((bPlayF p (machineF mach) (picks.l.take (min picks.l.length 100))).2.1.length : Nat) : Int) ≤ ((2 : Int) * ((b13 : Nat) : Int)))) && (bOverF p (machineF mach) cb2)) && (decide (((cb2.drop 138).take 4) = (List.replicate 4 (0 : UInt8)))))) (q := true) rfl rfl rfl) ?_; simp only [N]
    refine wasg (.bool ((((decide ((((bPlayF p (machineF mach) (picks.l.take (min picks.l.length 100))).2.1.length : Nat) : Int) ≤ ((2 : Int) * ((b13 : Nat) : Int)))) && (bOverF p (machineF mach) cb2)) && (decide (((cb2.drop 138).take 4) = (List.replicate 4 (0 : UInt8))))) && true)) ?_; simp only [N]
    refine wpList_nil ?_
    refine wp_ret ?_
    try simp only [Exit.inBlock, Exit.then, cutP]
    refine bodyPost_ret (results1 rfl (rv_tmp rfl)) rfl ?_
    have hF : (waitsF p mach picks.l) = ((((decide ((((bPlayF p (machineF mach) (picks.l.take (min picks.l.length 100))).2.1.length : Nat) : Int) ≤ ((2 : Int) * ((b13 : Nat) : Int)))) && (bOverF p (machineF mach) cb2)) && (decide (((cb2.drop 138).take 4) = (List.replicate 4 (0 : UInt8))))) && true) := hFc2
    rw [hF]
    exact ⟨rfl, H.ext⟩

end Go.Proofs.YtimonjemjhecoaaGreatDoor
