/- Walks, printed by a program of this repository (wip/tool). -/
import Derived.Test.YtimonjemjhecoaaGreatDoorLB2
import Derived.Test.YtimonjemjhecoaaGreatDoorBQ
import Derived.Test.YtimonjemjhecoaaGreatDoorCut
import Derived.Test.YtimonjemjhecoaaGreatDoorOrB
namespace Go.Proofs.YtimonjemjhecoaaGreatDoor
open Go.RowKit
open Go
attribute [local irreducible] wpList wpQuiet wpX Code.wp
set_option maxHeartbeats 1000000
set_option maxRecDepth 100000
set_option linter.unusedSimpArgs false
set_option linter.unusedVariables false

def orderF_g (p : Prog) (a9 : UInt8) (v72 : Nat) (cb2 : List UInt8) (v80 : Pass) (rc : ((List Sto) × (List UInt8) × (List Bool) × (List Bool) × (List UInt8)) → Bool) (gb3 : List Bool) (gb5 : List UInt8) (grow1 : List Sto) (gb4 : List Bool) : Bool :=
  bif ((bMoveF p a9 cb2 v80).2 != (0 : Int)) then false else (bif ((!v80.drain) && (((v80.thread).toNat : Int) == (v72 : Int))) then (bif ((decide ((4 : UInt8) ≤ ((p.threads.l.getD v72 default).l.getD ((cb2.getD (v72 * 9) 0).toNat) default).op)) && (decide (((p.threads.l.getD v72 default).l.getD ((cb2.getD (v72 * 9) 0).toNat) default).op ≤ (6 : UInt8)))) then (rc (grow1, (gb5.set ((((p.threads.l.getD v72 default).l.getD ((cb2.getD (v72 * 9) 0).toNat) default).loc).toNat) ((bMoveF p a9 cb2 v80).1.getD (36 + (((p.threads.l.getD v72 default).l.getD ((cb2.getD (v72 * 9) 0).toNat) default).loc).toNat) 0)), gb4, gb3, (bMoveF p a9 cb2 v80).1)) else (rc (grow1, gb5, gb4, gb3, (bMoveF p a9 cb2 v80).1))) else (rc (grow1, gb5, gb4, gb3, (bMoveF p a9 cb2 v80).1)))
def orderF_d (p : Prog) (a9 : UInt8) (v72 : Nat) (cb5 : List UInt8) (cb4 : List Bool) (cb3 : List Bool) (cb2 : List UInt8) (v80 : Pass) (rc : ((List Sto) × (List UInt8) × (List Bool) × (List Bool) × (List UInt8)) → Bool) (drow1 : List Sto) : Bool :=
  bif (!v80.drain) then (bif ((((v80.thread).toNat : Int) == (v72 : Int)) && (((p.threads.l.getD ((v80.thread).toNat) default).l.getD ((cb2.getD ((v80.thread).toNat * 9) 0).toNat) default).op == (2 : UInt8))) then (orderF_g p a9 v72 cb2 v80 rc (cb3.set ((((p.threads.l.getD ((v80.thread).toNat) default).l.getD ((cb2.getD ((v80.thread).toNat * 9) 0).toNat) default).loc).toNat) true) (cb5.set ((((p.threads.l.getD ((v80.thread).toNat) default).l.getD ((cb2.getD ((v80.thread).toNat * 9) 0).toNat) default).loc).toNat) (worth ((p.threads.l.getD ((v80.thread).toNat) default).l.getD ((cb2.getD ((v80.thread).toNat * 9) 0).toNat) default).a ((cb2.drop (v72 * 9 + 1)).take 8))) (drow1 ++ [(⟨((p.threads.l.getD ((v80.thread).toNat) default).l.getD ((cb2.getD ((v80.thread).toNat * 9) 0).toNat) default).loc, (worth ((p.threads.l.getD ((v80.thread).toNat) default).l.getD ((cb2.getD ((v80.thread).toNat * 9) 0).toNat) default).a ((cb2.drop (v72 * 9 + 1)).take 8))⟩ : Sto)]) cb4) else (bif (((((p.threads.l.getD ((v80.thread).toNat) default).l.getD ((cb2.getD ((v80.thread).toNat * 9) 0).toNat) default).op == (2 : UInt8)) || ((decide ((4 : UInt8) ≤ ((p.threads.l.getD ((v80.thread).toNat) default).l.getD ((cb2.getD ((v80.thread).toNat * 9) 0).toNat) default).op)) && (decide (((p.threads.l.getD ((v80.thread).toNat) default).l.getD ((cb2.getD ((v80.thread).toNat * 9) 0).toNat) default).op ≤ (6 : UInt8))))) && (((v80.thread).toNat : Int) != (v72 : Int))) then (orderF_g p a9 v72 cb2 v80 rc cb3 cb5 drow1 (cb4.set ((((p.threads.l.getD ((v80.thread).toNat) default).l.getD ((cb2.getD ((v80.thread).toNat * 9) 0).toNat) default).loc).toNat) true)) else (orderF_g p a9 v72 cb2 v80 rc cb3 cb5 drow1 cb4))) else (orderF_g p a9 v72 cb2 v80 rc cb3 cb5 drow1 cb4)
def orderF_f (p : Prog) (pso : Bool) (a9 : UInt8) (v72 : Nat) (crow1 : List Sto) (cb5 : List UInt8) (cb4 : List Bool) (cb3 : List Bool) (cb2 : List UInt8) (v80 : Pass) (rc : ((List Sto) × (List UInt8) × (List Bool) × (List Bool) × (List UInt8)) → Bool) (rf : Nat → Bool) : Nat → Bool := fun s_ => match s_ with | f22 => bif (((decide ((f22 : Int) < (crow1.length : Int))) && pso) && ((crow1.getD f22 default).loc != v80.loc)) then (rf (f22 + 1)) else (bif ((((bMoveF p a9 cb2 v80).2 != (0 : Int)) || ((f22 : Int) == (crow1.length : Int))) || (((bMoveF p a9 cb2 v80).1.getD (36 + ((crow1.getD f22 default).loc).toNat) 0) != (crow1.getD f22 default).val)) then false else (orderF_d p a9 v72 cb5 cb4 cb3 cb2 v80 rc (crow1.take f22 ++ crow1.drop (f22 + 1))))
def orderF_v80 (p : Prog) (pso : Bool) (a9 : UInt8) (v72 : Nat) (crow1 : List Sto) (cb5 : List UInt8) (cb4 : List Bool) (cb3 : List Bool) (cb2 : List UInt8) (rc : ((List Sto) × (List UInt8) × (List Bool) × (List Bool) × (List UInt8)) → Bool) (v80 : Pass) : Bool :=
  bif ((((v80.thread).toNat : Int) == (v72 : Int)) && v80.drain) then (loopF (orderF_f p pso a9 v72 crow1 cb5 cb4 cb3 cb2 v80 rc) (crow1.length + 1) 0) else (orderF_d p a9 v72 cb5 cb4 cb3 cb2 v80 rc crow1)
def orderF_c (p : Prog) (pso : Bool) (a9 : UInt8) (v72 : Nat) (xrc : Pass) (rc : ((List Sto) × (List UInt8) × (List Bool) × (List Bool) × (List UInt8)) → Bool) : ((List Sto) × (List UInt8) × (List Bool) × (List Bool) × (List UInt8)) → Bool := fun s_ => match s_ with | (crow1, cb5, cb4, cb3, cb2) => orderF_v80 p pso a9 v72 crow1 cb5 cb4 cb3 cb2 rc xrc
def orderF_i (p : Prog) (picks : List UInt8) (a9 : UInt8) (cb5 : List UInt8) (cb4 : List Bool) (cb3 : List Bool) (xri : ByteArray) (ri : Nat → Bool) : Nat → Bool := fun s_ => match s_ with | i278 => bif (((cb3.getD i278 false) && (!(cb4.getD i278 false))) && (((bPlayF p a9 (picks.take (min picks.length 100))).1.getD (32 + i278) 0) != (cb5.getD i278 0))) then false else (ri (i278 + 1))
def orderF_ik (crow1 : List Sto) : Nat → Bool := fun s_ => match s_ with | i278 => (((crow1.length : Int) == (0 : Int)) && true)
def orderF_ck (p : Prog) (picks : List UInt8) (a9 : UInt8) : ((List Sto) × (List UInt8) × (List Bool) × (List Bool) × (List UInt8)) → Bool := fun s_ => match s_ with | (crow1, cb5, cb4, cb3, cb2) => loopL (orderF_i p picks a9 cb5 cb4 cb3) (orderF_ik crow1) p.locs.l 0
def orderF_v72 (p : Prog) (pso : Bool) (picks : List UInt8) (a9 : UInt8) (v72 : Nat) : Bool :=
  loopL (orderF_c p pso a9 v72) (orderF_ck p picks a9) ((bPlayF p a9 (picks.take (min picks.length 100))).2.1) (([] : List Sto), (((startF p).1.drop 36).take 6), (List.replicate 6 false), (List.replicate 6 false), (startF p).1)
def orderF_b (p : Prog) (pso : Bool) (picks : List UInt8) (which : UInt8) (a9 : UInt8) : Bool :=
  bif (((bPlayF p a9 (picks.take (min picks.length 100))).2.2 != (0 : Int)) || ((startF p).2 != (0 : Int))) then ((((bPlayF p a9 (picks.take (min picks.length 100))).2.2 == (startF p).2) && ((rightF p) != (0 : Int))) && true) else (orderF_v72 p pso picks a9 (which.toNat % p.threads.l.length))
def orderF_a (p : Prog) (pso : Bool) (picks : List UInt8) (which : UInt8) (a9 : UInt8) : Bool :=
  orderF_b p pso picks which a9
def orderF (p : Prog) (pso : Bool) (picks : List UInt8) (which : UInt8) : Bool :=
  bif pso then (orderF_a p pso picks which (3 : UInt8)) else (orderF_a p pso picks which (2 : UInt8))


theorem orderF_spec (p : Prog) (pso : Bool) (picks : Sl UInt8) (which : UInt8) (w : World) (hp : (IsProg p) w) (hpicks : (SlIn 1 eByte picks) w) (hg_ : Glob w) :
    Calls Tryz.prog 4 #[.agg p.cells.toArray, .bool pso, picks.val, bv which] w fun e w' => e = .returned (.bool (orderF p pso picks.l which)) ∧ Ext w w' := by
 have H := Own.start_ro w [IsProg p, SlIn 1 eByte picks, Glob] (List.forall_mem_cons.2 ⟨fun w' hw => hp.keep hw, List.forall_mem_cons.2 ⟨fun w' hw => hpicks.keep hw, List.forall_mem_cons.2 ⟨fun w' hw => hg_.keep hw, fun _ h => by cases h⟩⟩⟩)
 have hcp1 := hp.locs.2.2
 have hcp2 := hp.init.2.2
 have hcp3 := hp.threads.2.2
 have hcpicks := hpicks.2.2
 go_enter Tryz.func4, Tryz.ntmps4
 refine wsr ?_
 refine wl_box H rfl rfl (v := .agg (p.cells).toArray) rfl ?_
 clear H; intro b1 w1 hnb1 H; dsimp only [Value.cells] at H
 simp only [N]
 refine wasg (.bool false) ?_; simp only [N]
 refine wnr ?_
 refine wasg (bv (2 : UInt8)) ?_; simp only [N]
 refine wpList_nil ?_
 refine wp_seq ?_; refine wp_cutX (fun a' w' => ∃ (a9 : UInt8), a' = ⟨#[(tq a' 0), .bool pso, picks.val, bv which, .pointer (some ⟨b1, 0, none⟩), uU, uU, uU, (tq a' 8), bv a9, uU, uU, uU, uU, uU, uU, uU, uU, uU, uU, uU, uU, uU, uU, uU, uU, uU, uU, uU, uU, uU, uU, (tq a' 32), uU, uU, uU, uU, uU, uU, uU, uU, uU, uU, uU, uU, uU, uU, uU, uU, uU, uU, uU, uU, uU, uU, uU, uU, uU, uU, uU, uU, uU, uU, uU, uU, uU, uU, uU, uU, uU, uU, uU, uU, uU, uU, uU, uU, uU, uU, uU, uU, uU, uU, uU, uU, uU, uU, uU, uU, uU, uU, uU, uU, uU, uU, uU, uU, uU, uU, uU, uU, uU, uU, uU, uU, uU, uU, uU, uU, uU, uU, uU, uU, uU, uU, uU, uU, uU, uU, uU, uU, uU, uU, uU, uU, uU, uU, uU, uU, uU, uU, uU, uU, uU, uU, uU, uU, uU, uU, uU, uU, uU, uU, uU, uU, uU, uU, uU, uU, uU, uU, uU, uU, uU, uU, uU, uU, uU, uU, uU, uU, uU, uU, uU, uU, uU, uU, uU, uU, uU, uU, uU, uU, uU, uU, uU, uU, uU, uU, uU, uU, uU, uU, uU, uU, uU, uU, uU, uU, uU, uU, uU, uU, uU, uU, uU, uU, uU, uU, uU, uU, uU, uU, uU, uU, uU, uU, uU, uU, uU, uU, uU, uU, uU, uU, uU, uU, uU, uU, uU, uU, uU, uU, uU, uU, uU, uU, uU, uU, uU, uU, uU, uU, uU, uU, uU, uU, uU, uU, uU, uU, uU, uU, uU, uU, uU, uU, uU, uU, uU, uU, uU, uU, uU, uU, uU, uU, uU, uU, uU, uU, uU, uU, uU, uU, uU, uU, uU, uU, uU, uU, uU, uU, uU, uU, uU, uU, uU, uU, uU, uU, uU, uU, uU, uU, uU, uU, uU, uU, uU, uU, uU, uU, uU, uU, uU, uU, uU, uU, uU, uU, uU, uU, uU, uU, uU, uU], []⟩ ∧ Own w [] [IsProg p, SlIn 1 eByte picks, Glob] [.blk b1 (.cells (p.cells).toArray 29 (0, 0))] w' ∧ (a9 = 2 ∨ a9 = 3) ∧ (orderF p pso picks.l which) = orderF_a p pso picks.l which a9) ?_ ?_
 ·
  refine wsr ?_
  refine wmv (.bool pso) ?_; simp only [N]
  refine wpList_nil ?_
  refine wp_cond_split rfl (fun hc1 => ?_) (fun hc1 => ?_)
  · --T 1
   refine wp_region_lit ?_; refine wasg (bv (3 : UInt8)) ?_; simp only [N]
   refine wpList_nil ?_
   exact ⟨(3 : UInt8), (by kernel_rfl), H, (by first | exact .inl rfl | exact .inr rfl), bt hc1⟩
  · --F 1
   refine wp_skip ?_
   exact ⟨(2 : UInt8), (by kernel_rfl), H, (by first | exact .inl rfl | exact .inr rfl), bf hc1⟩
 clear H
 rintro a_ w2 ⟨a9, ha_, H, hja0, hFa⟩
 obtain ⟨ua, hu_⟩ : ∃ u : Nat → Value, ∀ n, tq a_ n = u n := ⟨_, fun _ => rfl⟩
 try simp only [hu_] at ha_
 clear hu_; subst ha_
 refine wp_seq ?_; refine wp_cutX (fun a' w' => ∃  (bd10 : Nat) (xd41_ : (Option Addr × Nat)), a' = ⟨#[(ua 0), .bool pso, picks.val, bv which, .pointer (some ⟨b1, 0, none⟩), uU, uU, uU, (ua 8), bv a9, .pointer (some ⟨bd10, 0, none⟩), (⟨xd41_.1, xd41_.2, (bPlayF p a9 (picks.l.take (min picks.l.length 100))).2.1⟩ : Sl Pass).val, iv (bPlayF p a9 (picks.l.take (min picks.l.length 100))).2.2, uU, uU, uU, uU, uU, uU, uU, uU, uU, uU, uU, uU, uU, uU, uU, uU, uU, uU, uU, (ua 32), (tq a' 33), (tq a' 34), (tq a' 35), (tq a' 36), (tq a' 37), (tq a' 38), (tq a' 39), (tq a' 40), (tq a' 41), (tq a' 42), (tq a' 43), (tq a' 44), uU, uU, uU, uU, uU, uU, uU, uU, uU, uU, uU, uU, uU, uU, uU, uU, uU, uU, uU, uU, uU, uU, uU, uU, uU, uU, uU, uU, uU, uU, uU, uU, uU, uU, uU, uU, uU, uU, uU, uU, uU, uU, uU, uU, uU, uU, uU, uU, uU, uU, uU, uU, uU, uU, uU, uU, uU, uU, uU, uU, uU, uU, uU, uU, uU, uU, uU, uU, uU, uU, uU, uU, uU, uU, uU, uU, uU, uU, uU, uU, uU, uU, uU, uU, uU, uU, uU, uU, uU, uU, uU, uU, uU, uU, uU, uU, uU, uU, uU, uU, uU, uU, uU, uU, uU, uU, uU, uU, uU, uU, uU, uU, uU, uU, uU, uU, uU, uU, uU, uU, uU, uU, uU, uU, uU, uU, uU, uU, uU, uU, uU, uU, uU, uU, uU, uU, uU, uU, uU, uU, uU, uU, uU, uU, uU, uU, uU, uU, uU, uU, uU, uU, uU, uU, uU, uU, uU, uU, uU, uU, uU, uU, uU, uU, uU, uU, uU, uU, uU, uU, uU, uU, uU, uU, uU, uU, uU, uU, uU, uU, uU, uU, uU, uU, uU, uU, uU, uU, uU, uU, uU, uU, uU, uU, uU, uU, uU, uU, uU, uU, uU, uU, uU, uU, uU, uU, uU, uU, uU, uU, uU, uU, uU, uU, uU, uU, uU, uU, uU, uU, uU, uU, uU, uU, uU, uU, uU, uU, uU, uU, uU, uU, uU, uU, uU, uU, uU, uU, uU, uU, uU, uU, uU, uU, uU, uU, uU, uU, uU, uU, uU, uU, uU, uU, uU, uU, uU, uU, uU, uU, uU, uU], []⟩ ∧ Own w [] [SlIn 3 Pass.cells (⟨xd41_.1, xd41_.2, (bPlayF p a9 (picks.l.take (min picks.l.length 100))).2.1⟩ : Sl Pass), IsProg p, SlIn 1 eByte picks, Glob] [.blk bd10 (.cells (enc (bPlayF p a9 (picks.l.take (min picks.l.length 100))).1).toArray 64 (0, 0)), .blk b1 (.cells (p.cells).toArray 29 (0, 0))] w' ∧ w.heap.size ≤ bd10 ∧ (orderF p pso picks.l which) = orderF_b p pso picks.l which a9) ?_ ?_
 ·
  refine wp_region_mix 16 H (by kernel_rfl) ?_
  refine wxl_tk 0 rfl (xy_run rfl (fun w H => rp_loadN H 0 rfl rfl rfl Tryz.underlying29 rfl sz29 (Nat.le_of_ble_eq_true rfl) (cs' := p.cells) rfl)) ?_; simp only [N]
  refine wxl_tk 1 rfl (xy_run rfl (fun w H => rp_move rfl (v := bv a9) rfl)) ?_; simp only [N]
  refine wxl_tk 2 rfl (xy_run rfl (fun w H => rp_move rfl (v := picks.val) rfl)) ?_; simp only [N]
  refine wxl_tk 3 rfl (xy_run rfl (fun w H => rp_move rfl (v := picks.val) rfl)) ?_; simp only [N]
  refine wxl_tk 4 rfl (xy_run rfl (fun w H => rp_len_sl (s := picks) Tryz.underlying23 rfl)) ?_; simp only [N]
  refine wxl_tk 5 rfl (xy_run rfl (fun w H => rp_vconv (rp_min2 rfl (picks.l.length : Int) (100 : Int) rfl rfl) (congrArg (Value.int .i64) (show min (picks.l.length : Int) (100 : Int) = (((min picks.l.length 100) : Nat) : Int) by omega)))) ?_; simp only [N]
  have hsl40 : (picks.l.take (min picks.l.length 100)).length ≤ 140737488355328 := by simp only [List.length_take, List.length_drop]; omega
  refine wxl_tk 6 rfl (xy_run rfl (fun w H => rp_slice_slh (H.ro_at 1 rfl) rfl Tryz.underlying23 sz5 rfl (min picks.l.length 100) rfl (by omega))) ?_; simp only [N]
  refine wxl_each2 7 12 (by kernel_rfl) ?_ ?_
  ·
   refine xs_fresh rfl rfl rfl (rc_go Tryz.func17 (by kernel_rfl) rfl) (fun w H => bPlayF_spec p a9 (⟨picks.ad, picks.cap, picks.l.take (min picks.l.length 100)⟩ : Sl UInt8) _ (H.ro_at 0 rfl) (SlIn.take (H.ro_at 1 rfl) (min picks.l.length 100) (by omega)) (H.ro_at 2 rfl)) ?_
   intro xd41_
   simp only [N, M, Value.cells]
   refine wxl_tk 8 rfl (xy_run rfl (fun w H => rp_move rfl (v := .tuple #[.agg (enc (bPlayF p a9 (picks.l.take (min picks.l.length 100))).1).toArray, (⟨xd41_.1, xd41_.2, (bPlayF p a9 (picks.l.take (min picks.l.length 100))).2.1⟩ : Sl Pass).val, iv (bPlayF p a9 (picks.l.take (min picks.l.length 100))).2.2]) rfl)) ?_; simp only [N]
   refine wxl_tk 9 rfl (xy_run rfl (fun w H => rp_extract rfl rfl (v := .agg (enc (bPlayF p a9 (picks.l.take (min picks.l.length 100))).1).toArray) rfl)) ?_; simp only [N]
   refine wxl_tk 10 rfl (xy_run rfl (fun w H => rp_extract rfl rfl (v := (⟨xd41_.1, xd41_.2, (bPlayF p a9 (picks.l.take (min picks.l.length 100))).2.1⟩ : Sl Pass).val) rfl)) ?_; simp only [N]
   refine wxl_tk 11 rfl (xy_run rfl (fun w H => rp_extract rfl rfl (v := iv (bPlayF p a9 (picks.l.take (min picks.l.length 100))).2.2) rfl)) ?_; simp only [N]
   refine wxl_alloc 12 rfl rfl (by kernel_rfl) rfl (xa_alloc rfl zv64) ?_
   intro bd10
   simp only [N, M, Value.cells]
   refine wxl_store 13 0 rfl rfl (by kernel_rfl) rfl rfl (xs_whole rfl rfl (vs := (enc (bPlayF p a9 (picks.l.take (min picks.l.length 100))).1).toArray) rfl (fun v hv => enc_one v (by simpa using hv)) (by first | exact sz64 | (rw [sz64]; congr 1; first | omega | simp [-List.reduceReplicate] <;> omega | simp [*, -List.reduceReplicate] <;> omega)) (by first | rfl | first | omega | simp [-List.reduceReplicate] <;> omega | simp [*, -List.reduceReplicate] <;> omega)) ?_
   simp only [N, M, Value.cells]
   refine wxl_tk 14 rfl (xy_run rfl (fun w H => rp_assign rfl (v := (⟨xd41_.1, xd41_.2, (bPlayF p a9 (picks.l.take (min picks.l.length 100))).2.1⟩ : Sl Pass).val) rfl)) ?_; simp only [N]
   refine wxl_tk 15 rfl (xy_run rfl (fun w H => rp_assign rfl (v := iv (bPlayF p a9 (picks.l.take (min picks.l.length 100))).2.2) rfl)) ?_; simp only [N]
   refine wpX_done (by kernel_rfl) ?_ _
   clear H; intro w3 H; simp only [List.cons_append, List.nil_append] at H
   exact ⟨bd10, xd41_, (by kernel_rfl), H, (H.newrow 0 rfl _ rfl), hFa⟩
  ·
   refine xs_allocR rfl rfl rfl (xa_alloc rfl zv64) ?_
   intro bd10
   simp only [N, M, Value.cells]
   refine wxl_fresh 7 rfl rfl (by kernel_rfl) rfl (rc_go Tryz.func17 (by kernel_rfl) rfl) (fun w H => bPlayF_spec p a9 (⟨picks.ad, picks.cap, picks.l.take (min picks.l.length 100)⟩ : Sl UInt8) _ (H.ro_at 0 rfl) (SlIn.take (H.ro_at 1 rfl) (min picks.l.length 100) (by omega)) (H.ro_at 2 rfl)) ?_
   intro xd41_
   simp only [N, M, Value.cells]
   refine wxl_tk 8 rfl (xy_run rfl (fun w H => rp_move rfl (v := .tuple #[.agg (enc (bPlayF p a9 (picks.l.take (min picks.l.length 100))).1).toArray, (⟨xd41_.1, xd41_.2, (bPlayF p a9 (picks.l.take (min picks.l.length 100))).2.1⟩ : Sl Pass).val, iv (bPlayF p a9 (picks.l.take (min picks.l.length 100))).2.2]) rfl)) ?_; simp only [N]
   refine wxl_tk 9 rfl (xy_run rfl (fun w H => rp_extract rfl rfl (v := .agg (enc (bPlayF p a9 (picks.l.take (min picks.l.length 100))).1).toArray) rfl)) ?_; simp only [N]
   refine wxl_tk 10 rfl (xy_run rfl (fun w H => rp_extract rfl rfl (v := (⟨xd41_.1, xd41_.2, (bPlayF p a9 (picks.l.take (min picks.l.length 100))).2.1⟩ : Sl Pass).val) rfl)) ?_; simp only [N]
   refine wxl_tk 11 rfl (xy_run rfl (fun w H => rp_extract rfl rfl (v := iv (bPlayF p a9 (picks.l.take (min picks.l.length 100))).2.2) rfl)) ?_; simp only [N]
   refine wxl_store 13 0 rfl rfl (by kernel_rfl) rfl rfl (xs_whole rfl rfl (vs := (enc (bPlayF p a9 (picks.l.take (min picks.l.length 100))).1).toArray) rfl (fun v hv => enc_one v (by simpa using hv)) (by first | exact sz64 | (rw [sz64]; congr 1; first | omega | simp [-List.reduceReplicate] <;> omega | simp [*, -List.reduceReplicate] <;> omega)) (by first | rfl | first | omega | simp [-List.reduceReplicate] <;> omega | simp [*, -List.reduceReplicate] <;> omega)) ?_
   simp only [N, M, Value.cells]
   refine wxl_tk 14 rfl (xy_run rfl (fun w H => rp_assign rfl (v := (⟨xd41_.1, xd41_.2, (bPlayF p a9 (picks.l.take (min picks.l.length 100))).2.1⟩ : Sl Pass).val) rfl)) ?_; simp only [N]
   refine wxl_tk 15 rfl (xy_run rfl (fun w H => rp_assign rfl (v := iv (bPlayF p a9 (picks.l.take (min picks.l.length 100))).2.2) rfl)) ?_; simp only [N]
   refine wpX_done (by kernel_rfl) ?_ _
   clear H; intro w4 H; simp only [List.cons_append, List.nil_append] at H
   exact ⟨bd10, xd41_, (by kernel_rfl), H, (H.newrow 0 rfl _ rfl), hFa⟩
 clear H
 rintro a_ w5 ⟨bd10, xd41_, ha_, H, hnbd10, hFb⟩
 obtain ⟨ub, hu_⟩ : ∃ u : Nat → Value, ∀ n, tq a_ n = u n := ⟨_, fun _ => rfl⟩
 try simp only [hu_] at ha_
 clear hu_; subst ha_
 refine wsr ?_
 refine wr (rp_loadN H 1 rfl rfl rfl Tryz.underlying29 rfl sz29 (Nat.le_of_ble_eq_true rfl) (cs' := p.cells) rfl) ?_; simp only [N]
 refine wl_callE H rfl (rc_go Tryz.func18 (by kernel_rfl) rfl) (startF_spec p _ (H.ro_at 1 rfl) (H.ro_at 3 rfl)) ?_
 clear H; intro w6 H
 simp only [N]
 refine wmv (.tuple #[.agg (enc (startF p).1).toArray, iv (startF p).2]) ?_; simp only [N]
 refine wr (rp_extract rfl rfl (v := .agg (enc (startF p).1).toArray) rfl) ?_; simp only [N]
 refine wr (rp_extract rfl rfl (v := iv (startF p).2) rfl) ?_; simp only [N]
 refine wl_alloc H rfl rfl zv41 ?_
 clear H; intro b2 w7 hnb2 H; dsimp only [Value.cells] at H
 simp only [N]
 simp only [enc_replicate] at H
 refine wl_storeA H 0 rfl rfl rfl rfl (startF p).1 rfl sz41 ?_
 clear H; intro w8 H; simp only [M] at H
 simp only [N]
 refine wasg (iv (startF p).2) ?_; simp only [N]
 refine wpList_nil ?_
 refine wp_seq ?_; refine wsr ?_
 refine wmv (iv (bPlayF p a9 (picks.l.take (min picks.l.length 100))).2.2) ?_; simp only [N]
 refine wr (rp_int_neq rfl (bPlayF p a9 (picks.l.take (min picks.l.length 100))).2.2 (0 : Int) rfl rfl) ?_; simp only [N]
 refine wmv (.bool ((bPlayF p a9 (picks.l.take (min picks.l.length 100))).2.2 != (0 : Int))) ?_; simp only [N]
 refine wl_g (wn_f rfl rfl) (v := iv (startF p).2) (fun hg => rp_move rfl (v := iv (startF p).2) rfl) ?_; simp only [N]
 refine wl_g (wn_f rfl rfl) (v := .bool ((startF p).2 != (0 : Int))) (fun hg => by have x2 : (bPlayF p a9 (picks.l.take (min picks.l.length 100))).2.2 = (0 : Int) := (by simpa using (notT hg)); exact (by simp only [gv_t hg]; exact rp_int_neq rfl (startF p).2 (0 : Int) rfl rfl)) ?_; simp only [N]
 refine wr (rp_pickO rfl (p := ((bPlayF p a9 (picks.l.take (min picks.l.length 100))).2.2 != (0 : Int))) (q := ((startF p).2 != (0 : Int))) rfl rfl rfl) ?_; simp only [N]
 refine wpList_nil ?_
 refine wp_cond_split rfl (fun hc2 => ?_) (fun hc2 => ?_)
 · --T 2
  refine wsr ?_
  refine wmv (iv (bPlayF p a9 (picks.l.take (min picks.l.length 100))).2.2) ?_; simp only [N]
  refine wmv (iv (startF p).2) ?_; simp only [N]
  refine wr (rp_int_eql rfl (bPlayF p a9 (picks.l.take (min picks.l.length 100))).2.2 (startF p).2 rfl rfl) ?_; simp only [N]
  refine wmv (.bool ((bPlayF p a9 (picks.l.take (min picks.l.length 100))).2.2 == (startF p).2)) ?_; simp only [N]
  refine wl_g (wn_t rfl rfl) (v := .agg (p.cells).toArray) (fun hg => rp_loadN H 2 rfl rfl rfl Tryz.underlying29 rfl sz29 (Nat.le_of_ble_eq_true rfl) (cs' := p.cells) rfl) ?_; simp only [N]
  refine wl_gE H (wn_t rfl rfl) (fun hg => fun w => by simp only [gv_t hg]; exact rc_go Tryz.func11 (by kernel_rfl) rfl w) (v := iv (rightF p)) (fun hg => by have x4 : (bPlayF p a9 (picks.l.take (min picks.l.length 100))).2.2 = (startF p).2 := (by simpa using hg); exact (rightF_spec p _ (H.ro_at 1 rfl) (H.ro_at 3 rfl))) ?_
  clear H; intro w9 H
  simp only [N]
  refine wl_g (wn_t rfl rfl) (v := .bool ((rightF p) != (0 : Int))) (fun hg => by have x5 : (bPlayF p a9 (picks.l.take (min picks.l.length 100))).2.2 = (startF p).2 := (by simpa using hg); exact (by simp only [gv_t hg]; exact rp_int_neq rfl (rightF p) (0 : Int) rfl rfl)) ?_; simp only [N]
  refine wr (rp_pickA rfl (p := ((bPlayF p a9 (picks.l.take (min picks.l.length 100))).2.2 == (startF p).2)) (q := ((rightF p) != (0 : Int))) rfl rfl rfl) ?_; simp only [N]
  refine wmv (.bool (((bPlayF p a9 (picks.l.take (min picks.l.length 100))).2.2 == (startF p).2) && ((rightF p) != (0 : Int)))) ?_; simp only [N]
  refine wl_gE H (wn_t rfl rfl) (fun hg => rc_go Tryz.func12 (by kernel_rfl) rfl) (v := .bool true) (fun hg => by have x6 : (bPlayF p a9 (picks.l.take (min picks.l.length 100))).2.2 = (startF p).2 := (by simpa using (andl hg)); have x7 : (rightF p) ≠ (0 : Int) := (by simpa using (andr hg)); exact (awakeB_spec' _ (H.ro_at 3 rfl))) ?_
  clear H; intro w10 H
  simp only [N]
  refine wr (rp_pickA rfl (p := (((bPlayF p a9 (picks.l.take (min picks.l.length 100))).2.2 == (startF p).2) && ((rightF p) != (0 : Int)))) (q := true) rfl rfl rfl) ?_; simp only [N]
  refine wasg (.bool ((((bPlayF p a9 (picks.l.take (min picks.l.length 100))).2.2 == (startF p).2) && ((rightF p) != (0 : Int))) && true)) ?_; simp only [N]
  refine wpList_nil ?_
  refine wp_ret ?_
  try simp only [Exit.inBlock, Exit.then, cutP]
  refine bodyPost_ret (results1 rfl (rv_tmp rfl)) rfl ?_
  have hF : (orderF p pso picks.l which) = ((((bPlayF p a9 (picks.l.take (min picks.l.length 100))).2.2 == (startF p).2) && ((rightF p) != (0 : Int))) && true) := hFb.trans (bt hc2)
  rw [hF]
  exact ⟨rfl, H.ext⟩
 · --F 2
  have hc2N8 : (bPlayF p a9 (picks.l.take (min picks.l.length 100))).2.2 = (0 : Int) := (by simpa using (orl hc2))
  have hc2N9 : (startF p).2 = (0 : Int) := (by simpa using (orr hc2))
  have hrs := bstart_right (by simpa using orr hc2)
  have hok := right_ok hrs
  have hth4 := hok.threads
  have hlc6 := hok.locs
  have hord := bplay_order (p := p) (mach := a9) (.inr hja0) (picks.l.take (min picks.l.length 100))
  refine wp_skip ?_
  refine wsr ?_
  refine wmv (bv which) ?_; simp only [N]
  refine wr (rp_u8_to_int rfl Tryz.underlying5 Tryz.underlying3 which rfl) ?_; simp only [N]
  refine wr (rp_fieldAddr rfl Tryz.underlying29 rfl 3 rfl sz24 rfl 3 rfl) ?_; simp only [N]
  refine wr (rp_load1 H 2 rfl rfl rfl Tryz.underlying24 rfl (v := p.threads.val) rfl) ?_; simp only [N]
  refine wr (rp_len_sl (s := p.threads) Tryz.underlying24 rfl) ?_; simp only [N]
  have hrem72 : (which.toNat % p.threads.l.length) < p.threads.l.length := Nat.mod_lt _ (by omega)
  refine wr (rp_int_rem rfl (which.toNat) p.threads.l.length rfl rfl (by omega)) ?_; simp only [N]
  generalize hv72 : (which.toNat % p.threads.l.length) = v72
  have hFv72 : (orderF p pso picks.l which) = orderF_v72 p pso picks.l a9 v72 := by first | (rw [← hv72]; exact hFb.trans (bf hc2)) | exact hFb.trans (bf hc2)
  rw [hv72] at hrem72
  refine wasg (iv (v72 : Int)) ?_; simp only [N]
  refine wnr ?_
  refine wasg ((.slice none 0 0)) ?_; simp only [N]
  refine wnr ?_
  refine wl_alloc H rfl rfl zv69 ?_
  clear H; intro b3 w11 hnb3 H; dsimp only [Value.cells] at H
  simp only [N]
  replace H : Own w [] [SlIn 3 Pass.cells (⟨xd41_.1, xd41_.2, (bPlayF p a9 (picks.l.take (min picks.l.length 100))).2.1⟩ : Sl Pass), IsProg p, SlIn 1 eByte picks, Glob] [.blk b3 (.cells (encB (List.replicate 6 false)).toArray 69 (0, 0)), .blk b2 (.cells (enc (startF p).1).toArray 41 (0, 0)), .blk bd10 (.cells (enc (bPlayF p a9 (picks.l.take (min picks.l.length 100))).1).toArray 64 (0, 0)), .blk b1 (.cells (p.cells).toArray 29 (0, 0))] _ := H
  refine wl_alloc H rfl rfl zv69 ?_
  clear H; intro b4 w12 hnb4 H; dsimp only [Value.cells] at H
  simp only [N]
  replace H : Own w [] [SlIn 3 Pass.cells (⟨xd41_.1, xd41_.2, (bPlayF p a9 (picks.l.take (min picks.l.length 100))).2.1⟩ : Sl Pass), IsProg p, SlIn 1 eByte picks, Glob] [.blk b4 (.cells (encB (List.replicate 6 false)).toArray 69 (0, 0)), .blk b3 (.cells (encB (List.replicate 6 false)).toArray 69 (0, 0)), .blk b2 (.cells (enc (startF p).1).toArray 41 (0, 0)), .blk bd10 (.cells (enc (bPlayF p a9 (picks.l.take (min picks.l.length 100))).1).toArray 64 (0, 0)), .blk b1 (.cells (p.cells).toArray 29 (0, 0))] _ := H
  refine wnr ?_
  refine wr (rp_fieldAddr rfl Tryz.underlying41 rfl 36 rfl sz34 rfl 36 rfl) ?_; simp only [N]
  refine wr (rp_loadNA H 2 rfl rfl rfl Tryz.underlying34 rfl sz34 36) ?_; simp only [N]
  refine wl_alloc H rfl rfl zv34 ?_
  clear H; intro b5 w13 hnb5 H; dsimp only [Value.cells] at H
  simp only [N]
  replace H : Own w [] [SlIn 3 Pass.cells (⟨xd41_.1, xd41_.2, (bPlayF p a9 (picks.l.take (min picks.l.length 100))).2.1⟩ : Sl Pass), IsProg p, SlIn 1 eByte picks, Glob] [.blk b5 (.cells (enc (List.replicate 6 (0 : UInt8))).toArray 34 (0, 0)), .blk b4 (.cells (encB (List.replicate 6 false)).toArray 69 (0, 0)), .blk b3 (.cells (encB (List.replicate 6 false)).toArray 69 (0, 0)), .blk b2 (.cells (enc (startF p).1).toArray 41 (0, 0)), .blk bd10 (.cells (enc (bPlayF p a9 (picks.l.take (min picks.l.length 100))).1).toArray 64 (0, 0)), .blk b1 (.cells (p.cells).toArray 29 (0, 0))] _ := H
  refine wl_storeA H 0 rfl rfl rfl rfl (((startF p).1.drop 36).take 6) rfl sz34 ?_
  clear H; intro w14 H; simp only [M] at H
  simp only [N]
  refine wpList_nil ?_
  refine wp_seq ?_; refine wsr ?_
  refine wmv ((⟨xd41_.1, xd41_.2, (bPlayF p a9 (picks.l.take (min picks.l.length 100))).2.1⟩ : Sl Pass).val) ?_; simp only [N]
  refine wr (rp_len_sl (s := (⟨xd41_.1, xd41_.2, (bPlayF p a9 (picks.l.take (min picks.l.length 100))).2.1⟩ : Sl Pass)) Tryz.underlying44 rfl) ?_; simp only [N]
  refine wmv (iv (0 : Int)) ?_; simp only [N]
  refine wpList_nil ?_
  refine wp_block ?_
  have H := H.rowNilT Sto.cells 36 2
  refine wp_loopX (fun m' a' w' => ∃ (c77 : Nat) (crow1 : List Sto) (cb5 : List UInt8) (cb4 : List Bool) (cb3 : List Bool) (cb2 : List UInt8) (cvrow1 : Value), a' = ⟨#[(ua 0), .bool pso, picks.val, bv which, .pointer (some ⟨b1, 0, none⟩), uU, uU, uU, (tq a' 8), bv a9, .pointer (some ⟨bd10, 0, none⟩), (tq a' 11), (tq a' 12), .pointer (some ⟨b2, 0, none⟩), (tq a' 14), iv (v72 : Int), cvrow1, .pointer (some ⟨b3, 0, none⟩), .pointer (some ⟨b4, 0, none⟩), .pointer (some ⟨b5, 0, none⟩), uU, (tq a' 21), (tq a' 22), (tq a' 23), (tq a' 24), (tq a' 25), (tq a' 26), (tq a' 27), (tq a' 28), (tq a' 29), (tq a' 30), uU, (ua 32), (ub 33), (ub 34), (ub 35), (ub 36), (ub 37), (ub 38), (ub 39), (ub 40), (ub 41), (ub 42), (ub 43), (ub 44), (tq a' 45), (tq a' 46), (tq a' 47), (tq a' 48), (tq a' 49), (tq a' 50), (tq a' 51), (tq a' 52), (tq a' 53), (tq a' 54), (tq a' 55), uU, uU, uU, uU, uU, uU, uU, uU, uU, uU, uU, bv which, (tq a' 68), (tq a' 69), (tq a' 70), (tq a' 71), (tq a' 72), (tq a' 73), (tq a' 74), (⟨xd41_.1, xd41_.2, (bPlayF p a9 (picks.l.take (min picks.l.length 100))).2.1⟩ : Sl Pass).val, iv (((bPlayF p a9 (picks.l.take (min picks.l.length 100))).2.1.length : Nat) : Int), iv (c77 : Int), (tq a' 78), (tq a' 79), (tq a' 80), (tq a' 81), (tq a' 82), (tq a' 83), (tq a' 84), (tq a' 85), (tq a' 86), (tq a' 87), (tq a' 88), (tq a' 89), (tq a' 90), (tq a' 91), (tq a' 92), (tq a' 93), (tq a' 94), (tq a' 95), (tq a' 96), (tq a' 97), (tq a' 98), (tq a' 99), (tq a' 100), (tq a' 101), (tq a' 102), (tq a' 103), (tq a' 104), (tq a' 105), (tq a' 106), (tq a' 107), (tq a' 108), (tq a' 109), (tq a' 110), (tq a' 111), (tq a' 112), (tq a' 113), (tq a' 114), (tq a' 115), (tq a' 116), (tq a' 117), (tq a' 118), (tq a' 119), (tq a' 120), (tq a' 121), (tq a' 122), (tq a' 123), (tq a' 124), (tq a' 125), (tq a' 126), (tq a' 127), (tq a' 128), (tq a' 129), (tq a' 130), (tq a' 131), (tq a' 132), (tq a' 133), (tq a' 134), (tq a' 135), (tq a' 136), (tq a' 137), (tq a' 138), (tq a' 139), (tq a' 140), (tq a' 141), (tq a' 142), (tq a' 143), (tq a' 144), (tq a' 145), (tq a' 146), (tq a' 147), (tq a' 148), (tq a' 149), (tq a' 150), (tq a' 151), (tq a' 152), (tq a' 153), (tq a' 154), (tq a' 155), (tq a' 156), (tq a' 157), (tq a' 158), (tq a' 159), (tq a' 160), (tq a' 161), (tq a' 162), (tq a' 163), (tq a' 164), (tq a' 165), (tq a' 166), (tq a' 167), (tq a' 168), (tq a' 169), (tq a' 170), (tq a' 171), (tq a' 172), (tq a' 173), (tq a' 174), (tq a' 175), (tq a' 176), (tq a' 177), (tq a' 178), (tq a' 179), (tq a' 180), (tq a' 181), (tq a' 182), (tq a' 183), (tq a' 184), (tq a' 185), (tq a' 186), (tq a' 187), (tq a' 188), (tq a' 189), (tq a' 190), (tq a' 191), (tq a' 192), (tq a' 193), (tq a' 194), (tq a' 195), (tq a' 196), (tq a' 197), (tq a' 198), (tq a' 199), (tq a' 200), (tq a' 201), (tq a' 202), (tq a' 203), (tq a' 204), (tq a' 205), (tq a' 206), (tq a' 207), (tq a' 208), (tq a' 209), (tq a' 210), (tq a' 211), (tq a' 212), (tq a' 213), (tq a' 214), (tq a' 215), (tq a' 216), (tq a' 217), (tq a' 218), (tq a' 219), (tq a' 220), (tq a' 221), (tq a' 222), (tq a' 223), (tq a' 224), (tq a' 225), (tq a' 226), (tq a' 227), (tq a' 228), (tq a' 229), (tq a' 230), (tq a' 231), (tq a' 232), (tq a' 233), (tq a' 234), (tq a' 235), (tq a' 236), (tq a' 237), (tq a' 238), (tq a' 239), (tq a' 240), (tq a' 241), (tq a' 242), (tq a' 243), (tq a' 244), (tq a' 245), (tq a' 246), (tq a' 247), (tq a' 248), (tq a' 249), (tq a' 250), (tq a' 251), (tq a' 252), (tq a' 253), (tq a' 254), (tq a' 255), (tq a' 256), (tq a' 257), (tq a' 258), (tq a' 259), (tq a' 260), (tq a' 261), (tq a' 262), (tq a' 263), (tq a' 264), (tq a' 265), (tq a' 266), (tq a' 267), (tq a' 268), (tq a' 269), (tq a' 270), (tq a' 271), (tq a' 272), (tq a' 273), (tq a' 274), uU, uU, uU, uU, uU, uU, uU, uU, uU, uU, uU, uU, uU, uU, uU, uU, uU, uU, uU, uU, uU, uU, uU, uU, uU, uU, uU, uU, uU, uU, uU, uU], []⟩ ∧ Own w [] [SlIn 3 Pass.cells (⟨xd41_.1, xd41_.2, (bPlayF p a9 (picks.l.take (min picks.l.length 100))).2.1⟩ : Sl Pass), IsProg p, SlIn 1 eByte picks, Glob] [.row cvrow1 36 2 crow1.length (crow1.flatMap Sto.cells), .blk b5 (.cells (enc cb5).toArray 34 (0, 0)), .blk b4 (.cells (encB cb4).toArray 69 (0, 0)), .blk b3 (.cells (encB cb3).toArray 69 (0, 0)), .blk b2 (.cells (enc cb2).toArray 41 (0, 0)), .blk bd10 (.cells (enc (bPlayF p a9 (picks.l.take (min picks.l.length 100))).1).toArray 64 (0, 0)), .blk b1 (.cells (p.cells).toArray 29 (0, 0))] w' ∧ (cb5.length = 6) ∧ (cb4.length = 6) ∧ (cb3.length = 6) ∧ (cb2.length = 142) ∧ (RunAt p a9 (picks.l.take (min picks.l.length 100)) c77 cb2) ∧ (∀ y ∈ crow1, y.loc.toNat < 6) ∧ (c77 ≤ (bPlayF p a9 (picks.l.take (min picks.l.length 100))).2.1.length) ∧ (crow1.length ≤ c77) ∧ (orderF p pso picks.l which) = loopL (orderF_c p pso a9 v72) (orderF_ck p picks.l a9) ((bPlayF p a9 (picks.l.take (min picks.l.length 100))).2.1.drop c77) (crow1, cb5, cb4, cb3, cb2) ∧ m' = (bPlayF p a9 (picks.l.take (min picks.l.length 100))).2.1.length - c77) _ ⟨0, ([] : List Sto), (((startF p).1.drop 36).take 6), (List.replicate 6 false), (List.replicate 6 false), (startF p).1, (.slice none 0 0), (by kernel_rfl), H, (by first | omega | simp [-List.reduceReplicate] <;> omega | simp [*, -List.reduceReplicate] <;> omega), (by first | omega | simp [-List.reduceReplicate] <;> omega | simp [*, -List.reduceReplicate] <;> omega), (by first | omega | simp [-List.reduceReplicate] <;> omega | simp [*, -List.reduceReplicate] <;> omega), (by first | omega | simp [-List.reduceReplicate] <;> omega | simp [*, -List.reduceReplicate] <;> omega), (by exact runAt_start hrs (.inr hja0)), (by intro y hy; cases hy), (by omega), (by first | omega | (simp; done) | (simp; omega)), hFv72, rfl⟩ ?_
  clear H
  rintro _ a_ w15 ⟨c77, crow1, cb5, cb4, cb3, cb2, cvrow1, ha_, H, hic0, hic1, hic2, hic3, hic4, hic5, hic6, hic7, hFc, rfl⟩
  obtain ⟨uc, hu_⟩ : ∃ u : Nat → Value, ∀ n, tq a_ n = u n := ⟨_, fun _ => rfl⟩
  try simp only [hu_] at ha_
  clear hu_; subst ha_
  have hra := fun h => runAt_pass hic4 h
  have hri := fun h hd => runAt_ins hic4 h hd
  refine wsr ?_
  refine wr (rp_int_lss rfl (c77 : Int) (((bPlayF p a9 (picks.l.take (min picks.l.length 100))).2.1.length : Nat) : Int) rfl rfl) ?_; simp only [N]
  refine wpList_nil ?_
  refine wp_seq ?_; refine wp_cond_split rfl (fun hc3 => ?_) (fun hc3 => ?_)
  · --T 3
   have hc3N10 : (c77 : Int) < (((bPlayF p a9 (picks.l.take (min picks.l.length 100))).2.1.length : Nat) : Int) := (by simpa using hc3)
   obtain ⟨rc, hrc⟩ : ∃ r, r = loopL (orderF_c p pso a9 v72) (orderF_ck p picks.l a9) ((bPlayF p a9 (picks.l.take (min picks.l.length 100))).2.1.drop (c77 + 1)) := ⟨_, rfl⟩
   have hFc2 := hFc.trans (loopL_step (show c77 < (bPlayF p a9 (picks.l.take (min picks.l.length 100))).2.1.length by omega))
   rw [← hrc] at hFc2
   refine wp_skip ?_
   refine wp_seq ?_; refine wp_block ?_
   refine wsr ?_
   refine wr (rp_indexAddr_sl (H.ro_at 0 rfl) rfl Tryz.underlying44 sz50 rfl c77 rfl (by show _ < (bPlayF p a9 (picks.l.take (min picks.l.length 100))).2.1.length; omega)) ?_; simp only [N]
   refine wr (rp_loadN_sl (H.ro_at 0 rfl) c77 (by show _ < (bPlayF p a9 (picks.l.take (min picks.l.length 100))).2.1.length; omega) rfl Tryz.underlying50 rfl rfl sz50) ?_; simp only [N]
   generalize hv80 : ((bPlayF p a9 (picks.l.take (min picks.l.length 100))).2.1.getD c77 default) = v80
   have hFv80 : (orderF p pso picks.l which) = orderF_v80 p pso a9 v72 crow1 cb5 cb4 cb3 cb2 rc v80 := by first | (rw [← hv80]; exact hFc2) | exact hFc2
   simp only [hv80] at hra hri
   have hlm80 := bMoveF_len0 p a9 cb2 v80 hic3
   refine wl_alloc H rfl rfl zv50 ?_
   clear H; intro b6 w16 hnb6 H; dsimp only [Value.cells] at H
   simp only [N]
   refine wl_storeV H 0 rfl rfl rfl rfl ((v80.cells).toArray) rfl (Pass.cells_one _) sz50 ?_
   clear H; intro w17 H; simp only [M] at H
   simp only [N]
   refine wpList_nil ?_
   refine wp_seq ?_; refine wp_cutX (fun a' w' => ∃ (drow1 : List Sto) (dvrow1 : Value), a' = ⟨#[(ua 0), .bool pso, picks.val, bv which, .pointer (some ⟨b1, 0, none⟩), uU, uU, uU, (tq a' 8), bv a9, .pointer (some ⟨bd10, 0, none⟩), (uc 11), (uc 12), .pointer (some ⟨b2, 0, none⟩), (uc 14), iv (v72 : Int), dvrow1, .pointer (some ⟨b3, 0, none⟩), .pointer (some ⟨b4, 0, none⟩), .pointer (some ⟨b5, 0, none⟩), uU, .pointer (some ⟨b6, 0, none⟩), (tq a' 22), (tq a' 23), (tq a' 24), (uc 25), (uc 26), (uc 27), (uc 28), (uc 29), (uc 30), uU, (ua 32), (ub 33), (ub 34), (ub 35), (ub 36), (ub 37), (ub 38), (ub 39), (ub 40), (ub 41), (ub 42), (ub 43), (ub 44), (uc 45), (uc 46), (uc 47), (uc 48), (uc 49), (uc 50), (uc 51), (uc 52), (uc 53), (uc 54), (uc 55), uU, uU, uU, uU, uU, uU, uU, uU, uU, uU, uU, bv which, (uc 68), (uc 69), (uc 70), (uc 71), (uc 72), (uc 73), (uc 74), (⟨xd41_.1, xd41_.2, (bPlayF p a9 (picks.l.take (min picks.l.length 100))).2.1⟩ : Sl Pass).val, iv (((bPlayF p a9 (picks.l.take (min picks.l.length 100))).2.1.length : Nat) : Int), iv (c77 : Int), (tq a' 78), (tq a' 79), (tq a' 80), (tq a' 81), (tq a' 82), (tq a' 83), (tq a' 84), (tq a' 85), (tq a' 86), (tq a' 87), (tq a' 88), (tq a' 89), (tq a' 90), (tq a' 91), (tq a' 92), (tq a' 93), (tq a' 94), (tq a' 95), (tq a' 96), (tq a' 97), (tq a' 98), (tq a' 99), (tq a' 100), (tq a' 101), (tq a' 102), (tq a' 103), (tq a' 104), (tq a' 105), (tq a' 106), (tq a' 107), (tq a' 108), (tq a' 109), (tq a' 110), (tq a' 111), (tq a' 112), (tq a' 113), (tq a' 114), (tq a' 115), (tq a' 116), (tq a' 117), (tq a' 118), (tq a' 119), (tq a' 120), (tq a' 121), (tq a' 122), (tq a' 123), (tq a' 124), (tq a' 125), (tq a' 126), (tq a' 127), (tq a' 128), (tq a' 129), (tq a' 130), (tq a' 131), (tq a' 132), (tq a' 133), (tq a' 134), (tq a' 135), (tq a' 136), (tq a' 137), (tq a' 138), (tq a' 139), (tq a' 140), (tq a' 141), (tq a' 142), (tq a' 143), (tq a' 144), (tq a' 145), (tq a' 146), (tq a' 147), (tq a' 148), (tq a' 149), (uc 150), (uc 151), (uc 152), (uc 153), (uc 154), (uc 155), (uc 156), (uc 157), (uc 158), (uc 159), (uc 160), (uc 161), (uc 162), (uc 163), (uc 164), (uc 165), (uc 166), (uc 167), (uc 168), (uc 169), (uc 170), (uc 171), (uc 172), (uc 173), (uc 174), (uc 175), (uc 176), (uc 177), (uc 178), (uc 179), (uc 180), (uc 181), (uc 182), (uc 183), (uc 184), (uc 185), (uc 186), (uc 187), (uc 188), (uc 189), (uc 190), (uc 191), (uc 192), (uc 193), (uc 194), (uc 195), (uc 196), (uc 197), (uc 198), (uc 199), (uc 200), (uc 201), (uc 202), (uc 203), (uc 204), (uc 205), (uc 206), (uc 207), (uc 208), (uc 209), (uc 210), (uc 211), (uc 212), (uc 213), (uc 214), (uc 215), (uc 216), (uc 217), (uc 218), (uc 219), (uc 220), (uc 221), (uc 222), (uc 223), (uc 224), (uc 225), (uc 226), (uc 227), (uc 228), (uc 229), (uc 230), (uc 231), (uc 232), (uc 233), (uc 234), (uc 235), (uc 236), (uc 237), (uc 238), (uc 239), (uc 240), (uc 241), (uc 242), (uc 243), (uc 244), (uc 245), (uc 246), (uc 247), (uc 248), (uc 249), (uc 250), (uc 251), (uc 252), (uc 253), (uc 254), (uc 255), (uc 256), (uc 257), (uc 258), (uc 259), (uc 260), (uc 261), (uc 262), (uc 263), (uc 264), (uc 265), (uc 266), (uc 267), (uc 268), (uc 269), (uc 270), (uc 271), (uc 272), (uc 273), (uc 274), uU, uU, uU, uU, uU, uU, uU, uU, uU, uU, uU, uU, uU, uU, uU, uU, uU, uU, uU, uU, uU, uU, uU, uU, uU, uU, uU, uU, uU, uU, uU, uU], []⟩ ∧ Own w [] [SlIn 3 Pass.cells (⟨xd41_.1, xd41_.2, (bPlayF p a9 (picks.l.take (min picks.l.length 100))).2.1⟩ : Sl Pass), IsProg p, SlIn 1 eByte picks, Glob] [.blk b6 (.cells (v80.cells).toArray 50 (0, 0)), .row dvrow1 36 2 drow1.length (drow1.flatMap Sto.cells), .blk b5 (.cells (enc cb5).toArray 34 (0, 0)), .blk b4 (.cells (encB cb4).toArray 69 (0, 0)), .blk b3 (.cells (encB cb3).toArray 69 (0, 0)), .blk b2 (.cells (enc cb2).toArray 41 (0, 0)), .blk bd10 (.cells (enc (bPlayF p a9 (picks.l.take (min picks.l.length 100))).1).toArray 64 (0, 0)), .blk b1 (.cells (p.cells).toArray 29 (0, 0))] w' ∧ (∀ y ∈ drow1, y.loc.toNat < 6) ∧ (drow1.length ≤ crow1.length) ∧ (orderF p pso picks.l which) = orderF_d p a9 v72 cb5 cb4 cb3 cb2 v80 rc drow1) ?_ ?_
   ·
    refine wsr ?_
    refine wr (rp_fieldAddr rfl Tryz.underlying50 rfl 0 rfl sz5 rfl 0 rfl) ?_; simp only [N]
    refine wr (rp_load1 H 0 rfl rfl rfl Tryz.underlying5 rfl (v := bv v80.thread) rfl) ?_; simp only [N]
    refine wr (rp_u8_to_int rfl Tryz.underlying5 Tryz.underlying3 v80.thread rfl) ?_; simp only [N]
    refine wmv (iv (v72 : Int)) ?_; simp only [N]
    refine wr (rp_int_eql rfl ((v80.thread).toNat : Int) (v72 : Int) rfl rfl) ?_; simp only [N]
    refine wmv (.bool (((v80.thread).toNat : Int) == (v72 : Int))) ?_; simp only [N]
    refine wl_g (wn_t rfl rfl) (v := .pointer (some ⟨b6, 1, none⟩)) (fun hg => rp_fieldAddr rfl Tryz.underlying50 rfl 1 rfl sz4 rfl 1 rfl) ?_; simp only [N]
    refine wl_g (wn_t rfl rfl) (v := .bool v80.drain) (fun hg => by have x12 : ((v80.thread).toNat : Int) = (v72 : Int) := (by simpa using hg); exact (by simp only [gv_t hg]; exact rp_load1 H 0 rfl rfl rfl Tryz.underlying4 rfl (v := .bool v80.drain) rfl)) ?_; simp only [N]
    refine wr (rp_pickA rfl (p := (((v80.thread).toNat : Int) == (v72 : Int))) (q := v80.drain) rfl rfl rfl) ?_; simp only [N]
    refine wpList_nil ?_
    refine wp_cond_split rfl (fun hc4 => ?_) (fun hc4 => ?_)
    · --T 4
     have hc4N13 : ((v80.thread).toNat : Int) = (v72 : Int) := (by simpa using (andl hc4))
     refine wsr ?_
     refine wasg (iv (0 : Int)) ?_; simp only [N]
     refine wpList_nil ?_
     refine wp_seq ?_; refine wp_block ?_
     refine wp_loopX (fun m' a' w' => ∃ (f22 : Nat) (nf : Nat), a' = ⟨#[(ua 0), .bool pso, picks.val, bv which, .pointer (some ⟨b1, 0, none⟩), uU, uU, uU, (uc 8), bv a9, .pointer (some ⟨bd10, 0, none⟩), (uc 11), (uc 12), .pointer (some ⟨b2, 0, none⟩), (uc 14), iv (v72 : Int), cvrow1, .pointer (some ⟨b3, 0, none⟩), .pointer (some ⟨b4, 0, none⟩), .pointer (some ⟨b5, 0, none⟩), uU, .pointer (some ⟨b6, 0, none⟩), iv (f22 : Int), (uc 23), (uc 24), (uc 25), (uc 26), (uc 27), (uc 28), (uc 29), (uc 30), uU, (ua 32), (ub 33), (ub 34), (ub 35), (ub 36), (ub 37), (ub 38), (ub 39), (ub 40), (ub 41), (ub 42), (ub 43), (ub 44), (uc 45), (uc 46), (uc 47), (uc 48), (uc 49), (uc 50), (uc 51), (uc 52), (uc 53), (uc 54), (uc 55), uU, uU, uU, uU, uU, uU, uU, uU, uU, uU, uU, bv which, (uc 68), (uc 69), (uc 70), (uc 71), (uc 72), (uc 73), (uc 74), (⟨xd41_.1, xd41_.2, (bPlayF p a9 (picks.l.take (min picks.l.length 100))).2.1⟩ : Sl Pass).val, iv (((bPlayF p a9 (picks.l.take (min picks.l.length 100))).2.1.length : Nat) : Int), iv (c77 : Int), (tq a' 78), (tq a' 79), (tq a' 80), (tq a' 81), (tq a' 82), (tq a' 83), (tq a' 84), (tq a' 85), (tq a' 86), (tq a' 87), (tq a' 88), (tq a' 89), (tq a' 90), (tq a' 91), (tq a' 92), (tq a' 93), (tq a' 94), (tq a' 95), (tq a' 96), (tq a' 97), (tq a' 98), (tq a' 99), (tq a' 100), (tq a' 101), (tq a' 102), (tq a' 103), (tq a' 104), (tq a' 105), (tq a' 106), (tq a' 107), (tq a' 108), (uc 109), (uc 110), (uc 111), (uc 112), (uc 113), (uc 114), (uc 115), (uc 116), (uc 117), (uc 118), (uc 119), (uc 120), (uc 121), (uc 122), (uc 123), (uc 124), (uc 125), (uc 126), (uc 127), (uc 128), (uc 129), (uc 130), (uc 131), (uc 132), (uc 133), (uc 134), (uc 135), (uc 136), (uc 137), (uc 138), (uc 139), (uc 140), (uc 141), (uc 142), (uc 143), (uc 144), (uc 145), (uc 146), (uc 147), (uc 148), (uc 149), (uc 150), (uc 151), (uc 152), (uc 153), (uc 154), (uc 155), (uc 156), (uc 157), (uc 158), (uc 159), (uc 160), (uc 161), (uc 162), (uc 163), (uc 164), (uc 165), (uc 166), (uc 167), (uc 168), (uc 169), (uc 170), (uc 171), (uc 172), (uc 173), (uc 174), (uc 175), (uc 176), (uc 177), (uc 178), (uc 179), (uc 180), (uc 181), (uc 182), (uc 183), (uc 184), (uc 185), (uc 186), (uc 187), (uc 188), (uc 189), (uc 190), (uc 191), (uc 192), (uc 193), (uc 194), (uc 195), (uc 196), (uc 197), (uc 198), (uc 199), (uc 200), (uc 201), (uc 202), (uc 203), (uc 204), (uc 205), (uc 206), (uc 207), (uc 208), (uc 209), (uc 210), (uc 211), (uc 212), (uc 213), (uc 214), (uc 215), (uc 216), (uc 217), (uc 218), (uc 219), (uc 220), (uc 221), (uc 222), (uc 223), (uc 224), (uc 225), (uc 226), (uc 227), (uc 228), (uc 229), (uc 230), (uc 231), (uc 232), (uc 233), (uc 234), (uc 235), (uc 236), (uc 237), (uc 238), (uc 239), (uc 240), (uc 241), (uc 242), (uc 243), (uc 244), (uc 245), (uc 246), (uc 247), (uc 248), (uc 249), (uc 250), (uc 251), (uc 252), (uc 253), (uc 254), (uc 255), (uc 256), (uc 257), (uc 258), (uc 259), (uc 260), (uc 261), (uc 262), (uc 263), (uc 264), (uc 265), (uc 266), (uc 267), (uc 268), (uc 269), (uc 270), (uc 271), (uc 272), (uc 273), (uc 274), uU, uU, uU, uU, uU, uU, uU, uU, uU, uU, uU, uU, uU, uU, uU, uU, uU, uU, uU, uU, uU, uU, uU, uU, uU, uU, uU, uU, uU, uU, uU, uU], []⟩ ∧ Own w [] [SlIn 3 Pass.cells (⟨xd41_.1, xd41_.2, (bPlayF p a9 (picks.l.take (min picks.l.length 100))).2.1⟩ : Sl Pass), IsProg p, SlIn 1 eByte picks, Glob] [.blk b6 (.cells (v80.cells).toArray 50 (0, 0)), .row cvrow1 36 2 crow1.length (crow1.flatMap Sto.cells), .blk b5 (.cells (enc cb5).toArray 34 (0, 0)), .blk b4 (.cells (encB cb4).toArray 69 (0, 0)), .blk b3 (.cells (encB cb3).toArray 69 (0, 0)), .blk b2 (.cells (enc cb2).toArray 41 (0, 0)), .blk bd10 (.cells (enc (bPlayF p a9 (picks.l.take (min picks.l.length 100))).1).toArray 64 (0, 0)), .blk b1 (.cells (p.cells).toArray 29 (0, 0))] w' ∧ (f22 ≤ crow1.length) ∧ crow1.length - f22 < nf ∧ (orderF p pso picks.l which) = loopF (orderF_f p pso a9 v72 crow1 cb5 cb4 cb3 cb2 v80 rc) nf f22 ∧ m' = crow1.length - f22) _ ⟨0, (crow1.length + 1), (by kernel_rfl), H, (by omega), (by omega), hFv80.trans (bt hc4), rfl⟩ ?_
     clear H
     rintro _ a_ w18 ⟨f22, nf, ha_, H, hif0, hmf, hFf, rfl⟩
     obtain ⟨uf, hu_⟩ : ∃ u : Nat → Value, ∀ n, tq a_ n = u n := ⟨_, fun _ => rfl⟩
     try simp only [hu_] at ha_
     clear hu_; subst ha_
     have hst6 := sto_at hic5 f22
     obtain ⟨nf, rfl⟩ : ∃ q, nf = q + 1 := ⟨nf - 1, by omega⟩
     obtain ⟨rf, hrf⟩ : ∃ r, r = loopF (orderF_f p pso a9 v72 crow1 cb5 cb4 cb3 cb2 v80 rc) nf := ⟨_, rfl⟩
     have hFf : (orderF p pso picks.l which) = orderF_f p pso a9 v72 crow1 cb5 cb4 cb3 cb2 v80 rc rf f22 := hFf.trans (by rw [hrf]; rfl)
     refine wp_seq ?_; refine wp_seq ?_; refine wp_region_own H (by kernel_rfl) (by kernel_rfl) ?_
     refine wq_run rfl (fun w H => rp_move rfl (v := iv (f22 : Int)) rfl) ?_; simp only [N]
     refine wq_run rfl (fun w H => rp_move rfl (v := cvrow1) rfl) ?_; simp only [N]
     refine wq_run rfl (fun w H => rp_len_row H 1 rfl Tryz.underlying68 rfl) ?_; simp only [N]
     refine wq_run rfl (fun w H => rp_int_lss rfl (f22 : Int) (crow1.length : Int) rfl rfl) ?_; simp only [N]
     refine wq_run rfl (fun w H => rp_move rfl (v := .bool (decide ((f22 : Int) < (crow1.length : Int)))) rfl) ?_; simp only [N]
     refine wq_g (wn_t rfl rfl) (v := .bool pso) (fun hg w H => rp_move rfl (v := .bool pso) rfl) ?_; simp only [N]
     refine wq_run rfl (fun w H => rp_pickA rfl (p := (decide ((f22 : Int) < (crow1.length : Int)))) (q := pso) rfl rfl rfl) ?_; simp only [N]
     refine wq_run rfl (fun w H => rp_move rfl (v := .bool ((decide ((f22 : Int) < (crow1.length : Int))) && pso)) rfl) ?_; simp only [N]
     refine wq_g (wn_t rfl rfl) (v := cvrow1) (fun hg w H => rp_move rfl (v := cvrow1) rfl) ?_; simp only [N]
     refine wq_g (wn_t rfl rfl) (v := iv (f22 : Int)) (fun hg w H => rp_move rfl (v := iv (f22 : Int)) rfl) ?_; simp only [N]
     refine wq_g (wn_t rfl rfl) (v := .pointer (some ⟨(rowSl cvrow1 crow1).blk, (rowSl cvrow1 crow1).off + f22 * 2, none⟩)) (fun hg w H => by have x17 : (f22 : Int) < (crow1.length : Int) := (by simpa using (andl hg)); exact (by simp only [gv_t hg]; exact rp_indexAddr_sl ((row_slin H 1 rfl crow1 rfl rfl Sto.cells_n (by first | omega | (simp only [List.length_append, List.length_cons, List.length_nil]; omega))).2) rfl Tryz.underlying68 sz36 (by exact (row_slin H 1 rfl crow1 rfl rfl Sto.cells_n (by first | omega | (simp only [List.length_append, List.length_cons, List.length_nil]; omega))).1) f22 rfl (by show _ < crow1.length; omega))) ?_; simp only [N]
     refine wq_g (wn_t rfl rfl) (v := .pointer (some ⟨(rowSl cvrow1 crow1).blk, (rowSl cvrow1 crow1).off + f22 * 2 + 0, none⟩)) (fun hg w H => by have x18 : (f22 : Int) < (crow1.length : Int) := (by simpa using (andl hg)); exact (by simp only [gv_t hg]; exact rp_fieldAddr rfl Tryz.underlying36 rfl 0 rfl sz5 rfl ((rowSl cvrow1 crow1).off + f22 * 2 + 0) rfl)) ?_; simp only [N]
     refine wq_g (wn_t rfl rfl) (v := bv (crow1.getD f22 default).loc) (fun hg w H => by have x19 : (f22 : Int) < (crow1.length : Int) := (by simpa using (andl hg)); exact (by simp only [gv_t hg]; exact rp_load1_sl ((row_slin H 1 rfl crow1 rfl rfl Sto.cells_n (by first | omega | (simp only [List.length_append, List.length_cons, List.length_nil]; omega))).2) f22 (by show _ < crow1.length; omega) rfl Tryz.underlying5 rfl 0 rfl (by omega) (v := bv (crow1.getD f22 default).loc) rfl)) ?_; simp only [N]
     refine wq_g (wn_t rfl rfl) (v := .pointer (some ⟨b6, 2, none⟩)) (fun hg w H => rp_fieldAddr rfl Tryz.underlying50 rfl 2 rfl sz5 rfl 2 rfl) ?_; simp only [N]
     refine wq_g (wn_t rfl rfl) (v := bv v80.loc) (fun hg w H => by have x21 : (f22 : Int) < (crow1.length : Int) := (by simpa using (andl hg)); exact (by simp only [gv_t hg]; exact rp_load1 H 0 rfl rfl rfl Tryz.underlying5 rfl (v := bv v80.loc) rfl)) ?_; simp only [N]
     refine wq_g (wn_t rfl rfl) (v := .bool ((crow1.getD f22 default).loc != v80.loc)) (fun hg w H => by have x22 : (f22 : Int) < (crow1.length : Int) := (by simpa using (andl hg)); exact (by simp only [gv_t hg]; exact rp_u8_neq rfl (crow1.getD f22 default).loc v80.loc rfl rfl)) ?_; simp only [N]
     refine wq_run rfl (fun w H => rp_pickA rfl (p := ((decide ((f22 : Int) < (crow1.length : Int))) && pso)) (q := ((crow1.getD f22 default).loc != v80.loc)) rfl rfl rfl) ?_; simp only [N]
     refine wq_nil ?_
     clear H; intro w19 H
     refine wp_cond_split rfl (fun hc5 => ?_) (fun hc5 => ?_)
     · --T 5
      have hc5N23 : (f22 : Int) < (crow1.length : Int) := (by simpa using (andl (andl hc5)))
      have hc5N24 : ((crow1.getD f22 default).loc).toNat ≠ (v80.loc).toNat := u8_ne2 (andr hc5)
      refine wp_skip ?_
      refine wp_block ?_
      refine wp_region_lit ?_; refine wmv (iv (f22 : Int)) ?_; simp only [N]
      refine wr (rp_int_add rfl (f22 : Int) (1 : Int) rfl rfl (by omega)) ?_; simp only [N]
      refine wasg (iv ((f22 : Int) + (1 : Int))) ?_; simp only [N]
      refine wpList_nil ?_
      show ∃ n', n' < _ ∧ _
      refine ⟨_, ?_, (f22 + 1), nf, (by kernel_rfl), H, (by omega), (by omega), (hFf.trans (bt hc5)).trans (congrFun hrf _), rfl⟩
      omega
     · --F 5
      refine wp_exit ?_
      refine wsr ?_
      refine wr (rp_loadN H 7 rfl rfl rfl Tryz.underlying29 rfl sz29 (Nat.le_of_ble_eq_true rfl) (cs' := p.cells) rfl) ?_; simp only [N]
      refine wmv (bv a9) ?_; simp only [N]
      refine wr (rp_loadWA H 5 rfl rfl rfl Tryz.underlying41 rfl sz41 rfl) ?_; simp only [N]
      refine wr (rp_loadN H 0 rfl rfl rfl Tryz.underlying50 rfl sz50 (Nat.le_of_ble_eq_true rfl) (cs' := v80.cells) rfl) ?_; simp only [N]
      refine wl_callE H rfl (rc_go Tryz.func13 (by kernel_rfl) rfl) (bMoveF_spec p a9 cb2 v80 (by first | omega | simp [-List.reduceReplicate] <;> omega | simp [*, -List.reduceReplicate] <;> omega) _ (H.ro_at 1 rfl) (H.ro_at 3 rfl)) ?_
      clear H; intro w20 H
      simp only [N]
      refine wmv (.tuple #[.agg (enc (bMoveF p a9 cb2 v80).1).toArray, iv (bMoveF p a9 cb2 v80).2]) ?_; simp only [N]
      refine wr (rp_extract rfl rfl (v := .agg (enc (bMoveF p a9 cb2 v80).1).toArray) rfl) ?_; simp only [N]
      refine wr (rp_extract rfl rfl (v := iv (bMoveF p a9 cb2 v80).2) rfl) ?_; simp only [N]
      refine wl_alloc H rfl rfl zv41 ?_
      clear H; intro b7 w21 hnb7 H; dsimp only [Value.cells] at H
      simp only [N]
      simp only [enc_replicate] at H
      refine wl_storeA H 0 rfl rfl rfl rfl (bMoveF p a9 cb2 v80).1 rfl sz41 ?_
      clear H; intro w22 H; simp only [M] at H
      simp only [N]
      refine wasg (iv (bMoveF p a9 cb2 v80).2) ?_; simp only [N]
      refine wpList_nil ?_
      refine wp_seq ?_; refine wp_seq ?_; refine wp_region_own H (by kernel_rfl) (by kernel_rfl) ?_
      refine wq_run rfl (fun w H => rp_move rfl (v := iv (bMoveF p a9 cb2 v80).2) rfl) ?_; simp only [N]
      refine wq_run rfl (fun w H => rp_int_neq rfl (bMoveF p a9 cb2 v80).2 (0 : Int) rfl rfl) ?_; simp only [N]
      refine wq_run rfl (fun w H => rp_move rfl (v := .bool ((bMoveF p a9 cb2 v80).2 != (0 : Int))) rfl) ?_; simp only [N]
      refine wq_g (wn_f rfl rfl) (v := iv (f22 : Int)) (fun hg w H => rp_move rfl (v := iv (f22 : Int)) rfl) ?_; simp only [N]
      refine wq_g (wn_f rfl rfl) (v := cvrow1) (fun hg w H => rp_move rfl (v := cvrow1) rfl) ?_; simp only [N]
      refine wq_g (wn_f rfl rfl) (v := iv (crow1.length : Int)) (fun hg w H => by have x27 : (bMoveF p a9 cb2 v80).2 = (0 : Int) := (by simpa using (notT hg)); exact (by simp only [gv_t hg]; exact rp_len_row H 2 rfl Tryz.underlying68 rfl)) ?_; simp only [N]
      refine wq_g (wn_f rfl rfl) (v := .bool ((f22 : Int) == (crow1.length : Int))) (fun hg w H => by have x28 : (bMoveF p a9 cb2 v80).2 = (0 : Int) := (by simpa using (notT hg)); exact (by simp only [gv_t hg]; exact rp_int_eql rfl (f22 : Int) (crow1.length : Int) rfl rfl)) ?_; simp only [N]
      refine wq_run rfl (fun w H => rp_pickO rfl (p := ((bMoveF p a9 cb2 v80).2 != (0 : Int))) (q := ((f22 : Int) == (crow1.length : Int))) rfl rfl rfl) ?_; simp only [N]
      refine wq_run rfl (fun w H => rp_move rfl (v := .bool (((bMoveF p a9 cb2 v80).2 != (0 : Int)) || ((f22 : Int) == (crow1.length : Int)))) rfl) ?_; simp only [N]
      refine wq_g (wn_f rfl rfl) (v := cvrow1) (fun hg w H => rp_move rfl (v := cvrow1) rfl) ?_; simp only [N]
      refine wq_g (wn_f rfl rfl) (v := iv (f22 : Int)) (fun hg w H => rp_move rfl (v := iv (f22 : Int)) rfl) ?_; simp only [N]
      refine wq_g (wn_f rfl rfl) (v := .pointer (some ⟨(rowSl cvrow1 crow1).blk, (rowSl cvrow1 crow1).off + f22 * 2, none⟩)) (fun hg w H => by have x33 : (bMoveF p a9 cb2 v80).2 = (0 : Int) := (by simpa using (orl (notT hg))); have x34 : (f22 : Int) ≠ (crow1.length : Int) := (by simpa using (orr (notT hg))); exact (by simp only [gv_t hg]; exact rp_indexAddr_sl ((row_slin H 2 rfl crow1 rfl rfl Sto.cells_n (by first | omega | (simp only [List.length_append, List.length_cons, List.length_nil]; omega))).2) rfl Tryz.underlying68 sz36 (by exact (row_slin H 2 rfl crow1 rfl rfl Sto.cells_n (by first | omega | (simp only [List.length_append, List.length_cons, List.length_nil]; omega))).1) f22 rfl (by show _ < crow1.length; omega))) ?_; simp only [N]
      refine wq_g (wn_f rfl rfl) (v := .pointer (some ⟨(rowSl cvrow1 crow1).blk, (rowSl cvrow1 crow1).off + f22 * 2 + 0, none⟩)) (fun hg w H => by have x35 : (bMoveF p a9 cb2 v80).2 = (0 : Int) := (by simpa using (orl (notT hg))); have x36 : (f22 : Int) ≠ (crow1.length : Int) := (by simpa using (orr (notT hg))); exact (by simp only [gv_t hg]; exact rp_fieldAddr rfl Tryz.underlying36 rfl 0 rfl sz5 rfl ((rowSl cvrow1 crow1).off + f22 * 2 + 0) rfl)) ?_; simp only [N]
      refine wq_g (wn_f rfl rfl) (v := bv (crow1.getD f22 default).loc) (fun hg w H => by have x37 : (bMoveF p a9 cb2 v80).2 = (0 : Int) := (by simpa using (orl (notT hg))); have x38 : (f22 : Int) ≠ (crow1.length : Int) := (by simpa using (orr (notT hg))); exact (by simp only [gv_t hg]; exact rp_load1_sl ((row_slin H 2 rfl crow1 rfl rfl Sto.cells_n (by first | omega | (simp only [List.length_append, List.length_cons, List.length_nil]; omega))).2) f22 (by show _ < crow1.length; omega) rfl Tryz.underlying5 rfl 0 rfl (by omega) (v := bv (crow1.getD f22 default).loc) rfl)) ?_; simp only [N]
      refine wq_g (wn_f rfl rfl) (v := .pointer (some ⟨b7, 36, none⟩)) (fun hg w H => rp_fieldAddr rfl Tryz.underlying41 rfl 36 rfl sz34 rfl 36 rfl) ?_; simp only [N]
      refine wq_g (wn_f rfl rfl) (v := .pointer (some ⟨b7, 36 + ((crow1.getD f22 default).loc).toNat, none⟩)) (fun hg w H => by have x41 : (bMoveF p a9 cb2 v80).2 = (0 : Int) := (by simpa using (orl (notT hg))); have x42 : (f22 : Int) ≠ (crow1.length : Int) := (by simpa using (orr (notT hg))); exact (by simp only [gv_t hg]; exact rp_indexAddr_arr rfl Tryz.underlying34 sz5 rfl ((crow1.getD f22 default).loc).toNat rfl (by omega) (36 + ((crow1.getD f22 default).loc).toNat) (by omega))) ?_; simp only [N]
      refine wq_g (wn_f rfl rfl) (v := bv ((bMoveF p a9 cb2 v80).1.getD (36 + ((crow1.getD f22 default).loc).toNat) 0)) (fun hg w H => by have x43 : (bMoveF p a9 cb2 v80).2 = (0 : Int) := (by simpa using (orl (notT hg))); have x44 : (f22 : Int) ≠ (crow1.length : Int) := (by simpa using (orr (notT hg))); exact (by simp only [gv_t hg]; exact rp_load1A H 0 rfl rfl rfl Tryz.underlying5 rfl (36 + ((crow1.getD f22 default).loc).toNat) rfl)) ?_; simp only [N]
      refine wq_g (wn_f rfl rfl) (v := cvrow1) (fun hg w H => rp_move rfl (v := cvrow1) rfl) ?_; simp only [N]
      refine wq_g (wn_f rfl rfl) (v := iv (f22 : Int)) (fun hg w H => rp_move rfl (v := iv (f22 : Int)) rfl) ?_; simp only [N]
      refine wq_g (wn_f rfl rfl) (v := .pointer (some ⟨(rowSl cvrow1 crow1).blk, (rowSl cvrow1 crow1).off + f22 * 2, none⟩)) (fun hg w H => by have x49 : (bMoveF p a9 cb2 v80).2 = (0 : Int) := (by simpa using (orl (notT hg))); have x50 : (f22 : Int) ≠ (crow1.length : Int) := (by simpa using (orr (notT hg))); exact (by simp only [gv_t hg]; exact rp_indexAddr_sl ((row_slin H 2 rfl crow1 rfl rfl Sto.cells_n (by first | omega | (simp only [List.length_append, List.length_cons, List.length_nil]; omega))).2) rfl Tryz.underlying68 sz36 (by exact (row_slin H 2 rfl crow1 rfl rfl Sto.cells_n (by first | omega | (simp only [List.length_append, List.length_cons, List.length_nil]; omega))).1) f22 rfl (by show _ < crow1.length; omega))) ?_; simp only [N]
      refine wq_g (wn_f rfl rfl) (v := .pointer (some ⟨(rowSl cvrow1 crow1).blk, (rowSl cvrow1 crow1).off + f22 * 2 + 1, none⟩)) (fun hg w H => by have x51 : (bMoveF p a9 cb2 v80).2 = (0 : Int) := (by simpa using (orl (notT hg))); have x52 : (f22 : Int) ≠ (crow1.length : Int) := (by simpa using (orr (notT hg))); exact (by simp only [gv_t hg]; exact rp_fieldAddr rfl Tryz.underlying36 rfl 1 rfl sz5 rfl ((rowSl cvrow1 crow1).off + f22 * 2 + 1) rfl)) ?_; simp only [N]
      refine wq_g (wn_f rfl rfl) (v := bv (crow1.getD f22 default).val) (fun hg w H => by have x53 : (bMoveF p a9 cb2 v80).2 = (0 : Int) := (by simpa using (orl (notT hg))); have x54 : (f22 : Int) ≠ (crow1.length : Int) := (by simpa using (orr (notT hg))); exact (by simp only [gv_t hg]; exact rp_load1_sl ((row_slin H 2 rfl crow1 rfl rfl Sto.cells_n (by first | omega | (simp only [List.length_append, List.length_cons, List.length_nil]; omega))).2) f22 (by show _ < crow1.length; omega) rfl Tryz.underlying5 rfl 1 rfl (by omega) (v := bv (crow1.getD f22 default).val) rfl)) ?_; simp only [N]
      refine wq_g (wn_f rfl rfl) (v := .bool (((bMoveF p a9 cb2 v80).1.getD (36 + ((crow1.getD f22 default).loc).toNat) 0) != (crow1.getD f22 default).val)) (fun hg w H => by have x55 : (bMoveF p a9 cb2 v80).2 = (0 : Int) := (by simpa using (orl (notT hg))); have x56 : (f22 : Int) ≠ (crow1.length : Int) := (by simpa using (orr (notT hg))); exact (by simp only [gv_t hg]; exact rp_u8_neq rfl ((bMoveF p a9 cb2 v80).1.getD (36 + ((crow1.getD f22 default).loc).toNat) 0) (crow1.getD f22 default).val rfl rfl)) ?_; simp only [N]
      refine wq_run rfl (fun w H => rp_pickO rfl (p := (((bMoveF p a9 cb2 v80).2 != (0 : Int)) || ((f22 : Int) == (crow1.length : Int)))) (q := (((bMoveF p a9 cb2 v80).1.getD (36 + ((crow1.getD f22 default).loc).toNat) 0) != (crow1.getD f22 default).val)) rfl rfl rfl) ?_; simp only [N]
      refine wq_nil ?_
      clear H; intro w23 H
      refine wp_cond_split rfl (fun hc6 => ?_) (fun hc6 => ?_)
      · --T 6
       refine wsr ?_
       refine wasg (.bool false) ?_; simp only [N]
       refine wpList_nil ?_
       refine wp_ret ?_
       try simp only [Exit.inBlock, Exit.then, cutP]
       refine bodyPost_ret (results1 rfl (rv_tmp rfl)) rfl ?_
       have hF : (orderF p pso picks.l which) = false := hFf.trans ((bf hc5).trans (bt hc6))
       rw [hF]
       exact ⟨rfl, H.ext⟩
      · --F 6
       have hc6N57 : (bMoveF p a9 cb2 v80).2 = (0 : Int) := (by simpa using (orl (orl hc6)))
       have hc6N58 : (f22 : Int) ≠ (crow1.length : Int) := (by simpa using (orr (orl hc6)))
       have hc6N59 : ((bMoveF p a9 cb2 v80).1.getD (36 + ((crow1.getD f22 default).loc).toNat) 0).toNat = ((crow1.getD f22 default).val).toNat := u8_eq2 (orr hc6)
       refine wp_skip ?_
       refine wp_region_mix 8 H (by kernel_rfl) ?_
       refine wxl_tk 0 rfl (xy_run rfl (fun w H => rp_move rfl (v := cvrow1) rfl)) ?_; simp only [N]
       refine wxl_tk 1 rfl (xy_run rfl (fun w H => rp_move rfl (v := iv (f22 : Int)) rfl)) ?_; simp only [N]
       refine wxl_tk 2 rfl (xy_run rfl (fun w H => rp_move rfl (v := iv (f22 : Int)) rfl)) ?_; simp only [N]
       refine wxl_tk 3 rfl (xy_run rfl (fun w H => rp_slice_slhm ((row_slin H 2 rfl crow1 rfl rfl Sto.cells_n (by first | omega | (simp only [List.length_append, List.length_cons, List.length_nil]; omega))).2) rfl Tryz.underlying68 sz36 (by exact (row_slin H 2 rfl crow1 rfl rfl Sto.cells_n (by first | omega | (simp only [List.length_append, List.length_cons, List.length_nil]; omega))).1) f22 rfl rfl (by show _ ≤ crow1.length; omega))) ?_; simp only [N]
       refine wxl_tk 4 rfl (xy_run rfl (fun w H => rp_move rfl (v := cvrow1) rfl)) ?_; simp only [N]
       refine wxl_tk 5 rfl (xy_run rfl (fun w H => rp_move rfl (v := iv (f22 : Int)) rfl)) ?_; simp only [N]
       refine wxl_tk 6 rfl (xy_run rfl (fun w H => rp_int_add rfl (f22 : Int) (1 : Int) rfl rfl (by omega))) ?_; simp only [N]
       refine wxl_tk 7 rfl (xy_run rfl (fun w H => rp_slice_sll ((row_slin H 2 rfl crow1 rfl rfl Sto.cells_n (by first | omega | (simp only [List.length_append, List.length_cons, List.length_nil]; omega))).2) rfl Tryz.underlying68 sz36 (by exact (row_slin H 2 rfl crow1 rfl rfl Sto.cells_n (by first | omega | (simp only [List.length_append, List.length_cons, List.length_nil]; omega))).1) (f22 + 1) rfl (by show _ ≤ crow1.length; omega))) ?_; simp only [N]
       refine wpX_tail (n := 1) _ rfl rfl (by kernel_rfl) ?_
       clear H; intro w24 H; simp only [List.cons_append, List.nil_append] at H
       refine wl_cut Sto.cells H 2 rfl crow1 f22 Tryz.underlying68 sz36 zv36 by36 rfl (by decide) rfl (by omega) rfl rfl Sto.cells_n (by intro x; simp [Sto.cells, Value.oneCell']) (by omega) (by omega) (by simp) ?_
       clear H; intro bd149 w25 H; simp only [M] at H
       simp only [N]
       refine wasg bd149 ?_; simp only [N]
       refine wpList_nil ?_
       replace H := H.dropNew 0 rfl (foot_blk hnb7); simp only [m5, m6] at H
       exact ⟨(crow1.take f22 ++ crow1.drop (f22 + 1)), bd149, (by kernel_rfl), H, (by first | exact hic5 | exact sto_cut hic5 f22), (by first | exact Nat.le_refl _ | (simp only [List.length_append, List.length_take, List.length_drop]; omega)), hFf.trans ((bf hc5).trans (bf hc6))⟩
    · --F 4
     refine wp_skip ?_
     exact ⟨crow1, cvrow1, (by kernel_rfl), H, (by first | exact hic5 | exact sto_cut hic5 f22), (by first | exact Nat.le_refl _ | (simp only [List.length_append, List.length_take, List.length_drop]; omega)), hFv80.trans (bf hc4)⟩
   clear H
   rintro a_ w26 ⟨drow1, dvrow1, ha_, H, hjd0, hjd1, hFd⟩
   obtain ⟨ud, hu_⟩ : ∃ u : Nat → Value, ∀ n, tq a_ n = u n := ⟨_, fun _ => rfl⟩
   try simp only [hu_] at ha_
   clear hu_; subst ha_
   refine wp_seq ?_; refine wp_cutX (fun a' w' => ∃ (gb3 : List Bool) (gb5 : List UInt8) (grow1 : List Sto) (gb4 : List Bool) (gvrow1 : Value), a' = ⟨#[(ua 0), .bool pso, picks.val, bv which, .pointer (some ⟨b1, 0, none⟩), uU, uU, uU, (ud 8), bv a9, .pointer (some ⟨bd10, 0, none⟩), (uc 11), (uc 12), .pointer (some ⟨b2, 0, none⟩), (uc 14), iv (v72 : Int), gvrow1, .pointer (some ⟨b3, 0, none⟩), .pointer (some ⟨b4, 0, none⟩), .pointer (some ⟨b5, 0, none⟩), uU, .pointer (some ⟨b6, 0, none⟩), (ud 22), (ud 23), (ud 24), (tq a' 25), (tq a' 26), (tq a' 27), (uc 28), (uc 29), (uc 30), uU, (ua 32), (ub 33), (ub 34), (ub 35), (ub 36), (ub 37), (ub 38), (ub 39), (ub 40), (ub 41), (ub 42), (ub 43), (ub 44), (uc 45), (uc 46), (uc 47), (uc 48), (uc 49), (uc 50), (uc 51), (uc 52), (uc 53), (uc 54), (uc 55), uU, uU, uU, uU, uU, uU, uU, uU, uU, uU, uU, bv which, (uc 68), (uc 69), (uc 70), (uc 71), (uc 72), (uc 73), (uc 74), (⟨xd41_.1, xd41_.2, (bPlayF p a9 (picks.l.take (min picks.l.length 100))).2.1⟩ : Sl Pass).val, iv (((bPlayF p a9 (picks.l.take (min picks.l.length 100))).2.1.length : Nat) : Int), iv (c77 : Int), (ud 78), (ud 79), (ud 80), (ud 81), (ud 82), (ud 83), (ud 84), (ud 85), (ud 86), (ud 87), (ud 88), (ud 89), (ud 90), (ud 91), (ud 92), (ud 93), (ud 94), (ud 95), (ud 96), (ud 97), (ud 98), (ud 99), (ud 100), (ud 101), (ud 102), (ud 103), (ud 104), (ud 105), (ud 106), (ud 107), (ud 108), (ud 109), (ud 110), (ud 111), (ud 112), (ud 113), (ud 114), (ud 115), (ud 116), (ud 117), (ud 118), (ud 119), (ud 120), (ud 121), (ud 122), (ud 123), (ud 124), (ud 125), (ud 126), (ud 127), (ud 128), (ud 129), (ud 130), (ud 131), (ud 132), (ud 133), (ud 134), (ud 135), (ud 136), (ud 137), (ud 138), (ud 139), (ud 140), (ud 141), (ud 142), (ud 143), (ud 144), (ud 145), (ud 146), (ud 147), (ud 148), (ud 149), (tq a' 150), (tq a' 151), (tq a' 152), (tq a' 153), (tq a' 154), (tq a' 155), (tq a' 156), (tq a' 157), (tq a' 158), (tq a' 159), (tq a' 160), (tq a' 161), (tq a' 162), (tq a' 163), (tq a' 164), (tq a' 165), (tq a' 166), (tq a' 167), (tq a' 168), (tq a' 169), (tq a' 170), (tq a' 171), (tq a' 172), (tq a' 173), (tq a' 174), (tq a' 175), (tq a' 176), (tq a' 177), (tq a' 178), (tq a' 179), (tq a' 180), (tq a' 181), (tq a' 182), (tq a' 183), (tq a' 184), (tq a' 185), (tq a' 186), (tq a' 187), (tq a' 188), (tq a' 189), (tq a' 190), (tq a' 191), (tq a' 192), (tq a' 193), (tq a' 194), (tq a' 195), (tq a' 196), (tq a' 197), (tq a' 198), (tq a' 199), (tq a' 200), (tq a' 201), (tq a' 202), (tq a' 203), (tq a' 204), (tq a' 205), (tq a' 206), (tq a' 207), (tq a' 208), (tq a' 209), (tq a' 210), (tq a' 211), (tq a' 212), (tq a' 213), (tq a' 214), (tq a' 215), (tq a' 216), (tq a' 217), (tq a' 218), (tq a' 219), (tq a' 220), (tq a' 221), (tq a' 222), (tq a' 223), (tq a' 224), (uc 225), (uc 226), (uc 227), (uc 228), (uc 229), (uc 230), (uc 231), (uc 232), (uc 233), (uc 234), (uc 235), (uc 236), (uc 237), (uc 238), (uc 239), (uc 240), (uc 241), (uc 242), (uc 243), (uc 244), (uc 245), (uc 246), (uc 247), (uc 248), (uc 249), (uc 250), (uc 251), (uc 252), (uc 253), (uc 254), (uc 255), (uc 256), (uc 257), (uc 258), (uc 259), (uc 260), (uc 261), (uc 262), (uc 263), (uc 264), (uc 265), (uc 266), (uc 267), (uc 268), (uc 269), (uc 270), (uc 271), (uc 272), (uc 273), (uc 274), uU, uU, uU, uU, uU, uU, uU, uU, uU, uU, uU, uU, uU, uU, uU, uU, uU, uU, uU, uU, uU, uU, uU, uU, uU, uU, uU, uU, uU, uU, uU, uU], []⟩ ∧ Own w [] [SlIn 3 Pass.cells (⟨xd41_.1, xd41_.2, (bPlayF p a9 (picks.l.take (min picks.l.length 100))).2.1⟩ : Sl Pass), IsProg p, SlIn 1 eByte picks, Glob] [.blk b3 (.cells (encB gb3).toArray 69 (0, 0)), .blk b5 (.cells (enc gb5).toArray 34 (0, 0)), .blk b6 (.cells (v80.cells).toArray 50 (0, 0)), .row gvrow1 36 2 grow1.length (grow1.flatMap Sto.cells), .blk b4 (.cells (encB gb4).toArray 69 (0, 0)), .blk b2 (.cells (enc cb2).toArray 41 (0, 0)), .blk bd10 (.cells (enc (bPlayF p a9 (picks.l.take (min picks.l.length 100))).1).toArray 64 (0, 0)), .blk b1 (.cells (p.cells).toArray 29 (0, 0))] w' ∧ (gb3.length = 6) ∧ (gb5.length = 6) ∧ (gb4.length = 6) ∧ (∀ y ∈ grow1, y.loc.toNat < 6) ∧ (grow1.length ≤ crow1.length + 1) ∧ (orderF p pso picks.l which) = orderF_g p a9 v72 cb2 v80 rc gb3 gb5 grow1 gb4) ?_ ?_
   ·
    refine wsr ?_
    refine wr (rp_fieldAddr rfl Tryz.underlying50 rfl 1 rfl sz4 rfl 1 rfl) ?_; simp only [N]
    refine wr (rp_load1 H 0 rfl rfl rfl Tryz.underlying4 rfl (v := .bool v80.drain) rfl) ?_; simp only [N]
    refine wr (rp_not rfl v80.drain rfl) ?_; simp only [N]
    refine wpList_nil ?_
    refine wp_cond_split rfl (fun hc7 => ?_) (fun hc7 => ?_)
    · --T 7
     have hri7 := hri (by omega) (by simpa using hc7)
     have hpf7 := pass_facts hic4.1 (hra (by omega))
     have hpf71 := hpf7.1
     have hpf72 := hpf7.2.1
     have hri71 := hri7.1
     have hri72 := hri7.2
     refine wp_seq ?_; refine wp_region_mix 16 H (by kernel_rfl) ?_
     refine wxl_tk 0 rfl (xy_run rfl (fun w H => rp_fieldAddr rfl Tryz.underlying29 rfl 3 rfl sz24 rfl 3 rfl)) ?_; simp only [N]
     refine wxl_tk 1 rfl (xy_run rfl (fun w H => rp_load1 H 7 rfl rfl rfl Tryz.underlying24 rfl (v := p.threads.val) rfl)) ?_; simp only [N]
     refine wxl_tk 2 rfl (xy_run rfl (fun w H => rp_fieldAddr rfl Tryz.underlying50 rfl 0 rfl sz5 rfl 0 rfl)) ?_; simp only [N]
     refine wxl_tk 3 rfl (xy_run rfl (fun w H => rp_load1 H 0 rfl rfl rfl Tryz.underlying5 rfl (v := bv v80.thread) rfl)) ?_; simp only [N]
     refine wxl_tk 4 rfl (xy_run rfl (fun w H => rp_indexAddr_sl (IsProg.threads (H.ro_at 1 rfl)) rfl Tryz.underlying24 sz59 rfl (v80.thread).toNat rfl (by omega))) ?_; simp only [N]
     refine wxl_tk 5 rfl (xy_run rfl (fun w H => rp_load1_sl (IsProg.threads (H.ro_at 1 rfl)) ((v80.thread).toNat) (by omega) rfl Tryz.underlying59 rfl 0 rfl (by omega) (v := (p.threads.l.getD ((v80.thread).toNat) default).val) rfl)) ?_; simp only [N]
     refine wxl_tk 6 rfl (xy_run rfl (fun w H => rp_fieldAddr rfl Tryz.underlying50 rfl 0 rfl sz5 rfl 0 rfl)) ?_; simp only [N]
     refine wxl_tk 7 rfl (xy_run rfl (fun w H => rp_load1 H 0 rfl rfl rfl Tryz.underlying5 rfl (v := bv v80.thread) rfl)) ?_; simp only [N]
     refine wxl_tk 8 rfl (xy_run rfl (fun w H => rp_fieldAddr rfl Tryz.underlying41 rfl 0 rfl sz33 rfl 0 rfl)) ?_; simp only [N]
     refine wxl_tk 9 rfl (xy_run rfl (fun w H => rp_indexAddr_arr rfl Tryz.underlying33 sz32 rfl (v80.thread).toNat rfl (by omega) ((v80.thread).toNat * 9) (by omega))) ?_; simp only [N]
     refine wxl_tk 10 rfl (xy_run rfl (fun w H => rp_fieldAddr rfl Tryz.underlying32 rfl 0 rfl sz5 rfl ((v80.thread).toNat * 9) (by omega))) ?_; simp only [N]
     refine wxl_tk 11 rfl (xy_run rfl (fun w H => rp_load1A H 5 rfl rfl rfl Tryz.underlying5 rfl ((v80.thread).toNat * 9) rfl)) ?_; simp only [N]
     refine wxl_tk 12 rfl (xy_run rfl (fun w H => rp_indexAddr_sl (IsProg.ins_at (H.ro_at 1 rfl) (t := (v80.thread).toNat) (by omega)) rfl Tryz.underlying59 sz58 rfl (cb2.getD ((v80.thread).toNat * 9) 0).toNat rfl (by omega))) ?_; simp only [N]
     refine wxl_tk 13 rfl (xy_run rfl (fun w H => rp_loadN_sl (IsProg.ins_at (H.ro_at 1 rfl) (t := (v80.thread).toNat) (by omega)) ((cb2.getD ((v80.thread).toNat * 9) 0).toNat) (by omega) rfl Tryz.underlying58 rfl rfl sz58)) ?_; simp only [N]
     refine wxl_alloc 14 rfl rfl (by kernel_rfl) rfl (xa_alloc rfl zv58) ?_
     intro bd25
     simp only [N, M, Value.cells]
     refine wxl_store 15 0 rfl rfl (by kernel_rfl) rfl rfl (xs_whole rfl rfl (vs := (((p.threads.l.getD ((v80.thread).toNat) default).l.getD ((cb2.getD ((v80.thread).toNat * 9) 0).toNat) default).cells).toArray) rfl (Ins.cells_one _) (by first | exact sz58 | (rw [sz58]; congr 1; first | omega | simp [-List.reduceReplicate] <;> omega | simp [*, -List.reduceReplicate] <;> omega)) (by first | rfl | first | omega | simp [-List.reduceReplicate] <;> omega | simp [*, -List.reduceReplicate] <;> omega)) ?_
     simp only [N, M, Value.cells]
     refine wpX_done (by kernel_rfl) ?_ _
     clear H; intro w27 H; simp only [List.cons_append, List.nil_append] at H
     refine wsr ?_
     refine wr (rp_fieldAddr rfl Tryz.underlying58 rfl 0 rfl sz5 rfl 0 rfl) ?_; simp only [N]
     refine wr (rp_load1 H 0 rfl rfl rfl Tryz.underlying5 rfl (v := bv ((p.threads.l.getD ((v80.thread).toNat) default).l.getD ((cb2.getD ((v80.thread).toNat * 9) 0).toNat) default).op) rfl) ?_; simp only [N]
     refine wr (rp_u8_eql rfl ((p.threads.l.getD ((v80.thread).toNat) default).l.getD ((cb2.getD ((v80.thread).toNat * 9) 0).toNat) default).op (2 : UInt8) rfl rfl) ?_; simp only [N]
     refine wmv (.bool (((p.threads.l.getD ((v80.thread).toNat) default).l.getD ((cb2.getD ((v80.thread).toNat * 9) 0).toNat) default).op == (2 : UInt8))) ?_; simp only [N]
     refine wl_g (wn_f rfl rfl) (v := .pointer (some ⟨bd25, 0, none⟩)) (fun hg => rp_fieldAddr rfl Tryz.underlying58 rfl 0 rfl sz5 rfl 0 rfl) ?_; simp only [N]
     refine wl_g (wn_f rfl rfl) (v := bv ((p.threads.l.getD ((v80.thread).toNat) default).l.getD ((cb2.getD ((v80.thread).toNat * 9) 0).toNat) default).op) (fun hg => by have x61 : (((p.threads.l.getD ((v80.thread).toNat) default).l.getD ((cb2.getD ((v80.thread).toNat * 9) 0).toNat) default).op).toNat ≠ 2 := u8_ne (notT hg); exact (by simp only [gv_t hg]; exact rp_load1 H 0 rfl rfl rfl Tryz.underlying5 rfl (v := bv ((p.threads.l.getD ((v80.thread).toNat) default).l.getD ((cb2.getD ((v80.thread).toNat * 9) 0).toNat) default).op) rfl)) ?_; simp only [N]
     refine wl_g (wn_f rfl rfl) (v := .bool (decide ((4 : UInt8) ≤ ((p.threads.l.getD ((v80.thread).toNat) default).l.getD ((cb2.getD ((v80.thread).toNat * 9) 0).toNat) default).op))) (fun hg => by have x62 : (((p.threads.l.getD ((v80.thread).toNat) default).l.getD ((cb2.getD ((v80.thread).toNat * 9) 0).toNat) default).op).toNat ≠ 2 := u8_ne (notT hg); exact (by simp only [gv_t hg]; exact rp_u8_geq rfl ((p.threads.l.getD ((v80.thread).toNat) default).l.getD ((cb2.getD ((v80.thread).toNat * 9) 0).toNat) default).op (4 : UInt8) rfl rfl)) ?_; simp only [N]
     refine wl_g (wn_f rfl rfl) (v := .bool (decide ((4 : UInt8) ≤ ((p.threads.l.getD ((v80.thread).toNat) default).l.getD ((cb2.getD ((v80.thread).toNat * 9) 0).toNat) default).op))) (fun hg => by have x63 : (((p.threads.l.getD ((v80.thread).toNat) default).l.getD ((cb2.getD ((v80.thread).toNat * 9) 0).toNat) default).op).toNat ≠ 2 := u8_ne (notT hg); exact (by simp only [gv_t hg]; exact rp_move rfl (v := .bool (decide ((4 : UInt8) ≤ ((p.threads.l.getD ((v80.thread).toNat) default).l.getD ((cb2.getD ((v80.thread).toNat * 9) 0).toNat) default).op))) rfl)) ?_; simp only [N]
     refine wl_g (wn_tg rfl rfl rfl) (v := .pointer (some ⟨bd25, 0, none⟩)) (fun hg => rp_fieldAddr rfl Tryz.underlying58 rfl 0 rfl sz5 rfl 0 rfl) ?_; simp only [N]
     refine wl_g (wn_tg rfl rfl rfl) (v := bv ((p.threads.l.getD ((v80.thread).toNat) default).l.getD ((cb2.getD ((v80.thread).toNat * 9) 0).toNat) default).op) (fun hg => by have x66 : (((p.threads.l.getD ((v80.thread).toNat) default).l.getD ((cb2.getD ((v80.thread).toNat * 9) 0).toNat) default).op).toNat ≠ 2 := u8_ne (notT (andl hg)); have x67 : 4 ≤ (((p.threads.l.getD ((v80.thread).toNat) default).l.getD ((cb2.getD ((v80.thread).toNat * 9) 0).toNat) default).op).toNat := u8_le (andr hg); exact (by simp only [gv_t hg]; exact rp_load1 H 0 rfl rfl rfl Tryz.underlying5 rfl (v := bv ((p.threads.l.getD ((v80.thread).toNat) default).l.getD ((cb2.getD ((v80.thread).toNat * 9) 0).toNat) default).op) rfl)) ?_; simp only [N]
     refine wl_g (wn_tg rfl rfl rfl) (v := .bool (decide (((p.threads.l.getD ((v80.thread).toNat) default).l.getD ((cb2.getD ((v80.thread).toNat * 9) 0).toNat) default).op ≤ (6 : UInt8)))) (fun hg => by have x68 : (((p.threads.l.getD ((v80.thread).toNat) default).l.getD ((cb2.getD ((v80.thread).toNat * 9) 0).toNat) default).op).toNat ≠ 2 := u8_ne (notT (andl hg)); have x69 : 4 ≤ (((p.threads.l.getD ((v80.thread).toNat) default).l.getD ((cb2.getD ((v80.thread).toNat * 9) 0).toNat) default).op).toNat := u8_le (andr hg); exact (by simp only [gv_t hg]; exact rp_u8_leq rfl ((p.threads.l.getD ((v80.thread).toNat) default).l.getD ((cb2.getD ((v80.thread).toNat * 9) 0).toNat) default).op (6 : UInt8) rfl rfl)) ?_; simp only [N]
     refine wl_g (wn_f rfl rfl) (v := .bool ((decide ((4 : UInt8) ≤ ((p.threads.l.getD ((v80.thread).toNat) default).l.getD ((cb2.getD ((v80.thread).toNat * 9) 0).toNat) default).op)) && (decide (((p.threads.l.getD ((v80.thread).toNat) default).l.getD ((cb2.getD ((v80.thread).toNat * 9) 0).toNat) default).op ≤ (6 : UInt8))))) (fun hg => rp_pickAg rfl (p := (decide ((4 : UInt8) ≤ ((p.threads.l.getD ((v80.thread).toNat) default).l.getD ((cb2.getD ((v80.thread).toNat * 9) 0).toNat) default).op))) (q := (decide (((p.threads.l.getD ((v80.thread).toNat) default).l.getD ((cb2.getD ((v80.thread).toNat * 9) 0).toNat) default).op ≤ (6 : UInt8)))) hg rfl rfl rfl) ?_; simp only [N]
     refine wr (rp_pickO rfl (p := (((p.threads.l.getD ((v80.thread).toNat) default).l.getD ((cb2.getD ((v80.thread).toNat * 9) 0).toNat) default).op == (2 : UInt8))) (q := ((decide ((4 : UInt8) ≤ ((p.threads.l.getD ((v80.thread).toNat) default).l.getD ((cb2.getD ((v80.thread).toNat * 9) 0).toNat) default).op)) && (decide (((p.threads.l.getD ((v80.thread).toNat) default).l.getD ((cb2.getD ((v80.thread).toNat * 9) 0).toNat) default).op ≤ (6 : UInt8))))) rfl rfl rfl) ?_; simp only [N]
     refine wasg (.bool ((((p.threads.l.getD ((v80.thread).toNat) default).l.getD ((cb2.getD ((v80.thread).toNat * 9) 0).toNat) default).op == (2 : UInt8)) || ((decide ((4 : UInt8) ≤ ((p.threads.l.getD ((v80.thread).toNat) default).l.getD ((cb2.getD ((v80.thread).toNat * 9) 0).toNat) default).op)) && (decide (((p.threads.l.getD ((v80.thread).toNat) default).l.getD ((cb2.getD ((v80.thread).toNat * 9) 0).toNat) default).op ≤ (6 : UInt8)))))) ?_; simp only [N]
     refine wpList_nil ?_
     refine wp_block ?_
     refine wsr ?_
     refine wr (rp_fieldAddr rfl Tryz.underlying50 rfl 0 rfl sz5 rfl 0 rfl) ?_; simp only [N]
     refine wr (rp_load1 H 1 rfl rfl rfl Tryz.underlying5 rfl (v := bv v80.thread) rfl) ?_; simp only [N]
     refine wr (rp_u8_to_int rfl Tryz.underlying5 Tryz.underlying3 v80.thread rfl) ?_; simp only [N]
     refine wmv (iv (v72 : Int)) ?_; simp only [N]
     refine wr (rp_int_eql rfl ((v80.thread).toNat : Int) (v72 : Int) rfl rfl) ?_; simp only [N]
     refine wmv (.bool (((v80.thread).toNat : Int) == (v72 : Int))) ?_; simp only [N]
     refine wl_g (wn_t rfl rfl) (v := .pointer (some ⟨bd25, 0, none⟩)) (fun hg => rp_fieldAddr rfl Tryz.underlying58 rfl 0 rfl sz5 rfl 0 rfl) ?_; simp only [N]
     refine wl_g (wn_t rfl rfl) (v := bv ((p.threads.l.getD ((v80.thread).toNat) default).l.getD ((cb2.getD ((v80.thread).toNat * 9) 0).toNat) default).op) (fun hg => by have x72 : ((v80.thread).toNat : Int) = (v72 : Int) := (by simpa using hg); exact (by simp only [gv_t hg]; exact rp_load1 H 0 rfl rfl rfl Tryz.underlying5 rfl (v := bv ((p.threads.l.getD ((v80.thread).toNat) default).l.getD ((cb2.getD ((v80.thread).toNat * 9) 0).toNat) default).op) rfl)) ?_; simp only [N]
     refine wl_g (wn_t rfl rfl) (v := .bool (((p.threads.l.getD ((v80.thread).toNat) default).l.getD ((cb2.getD ((v80.thread).toNat * 9) 0).toNat) default).op == (2 : UInt8))) (fun hg => by have x73 : ((v80.thread).toNat : Int) = (v72 : Int) := (by simpa using hg); exact (by simp only [gv_t hg]; exact rp_u8_eql rfl ((p.threads.l.getD ((v80.thread).toNat) default).l.getD ((cb2.getD ((v80.thread).toNat * 9) 0).toNat) default).op (2 : UInt8) rfl rfl)) ?_; simp only [N]
     refine wr (rp_pickA rfl (p := (((v80.thread).toNat : Int) == (v72 : Int))) (q := (((p.threads.l.getD ((v80.thread).toNat) default).l.getD ((cb2.getD ((v80.thread).toNat * 9) 0).toNat) default).op == (2 : UInt8))) rfl rfl rfl) ?_; simp only [N]
     refine wasg (.bool ((((v80.thread).toNat : Int) == (v72 : Int)) && (((p.threads.l.getD ((v80.thread).toNat) default).l.getD ((cb2.getD ((v80.thread).toNat * 9) 0).toNat) default).op == (2 : UInt8)))) ?_; simp only [N]
     refine wpList_nil ?_
     refine wp_cond_split rfl (fun hc8 => ?_) (fun hc8 => ?_)
     · --T 8
      have hc8N74 : ((v80.thread).toNat : Int) = (v72 : Int) := (by simpa using (andl hc8))
      have hc8N75 : (((p.threads.l.getD ((v80.thread).toNat) default).l.getD ((cb2.getD ((v80.thread).toNat * 9) 0).toNat) default).op).toNat = 2 := u8_eq (andr hc8)
      refine wp_seq ?_; refine wp_region_own H (by kernel_rfl) (by kernel_rfl) ?_
      refine wq_run rfl (fun w H => rp_fieldAddr rfl Tryz.underlying58 rfl 3 rfl sz56 rfl 3 rfl) ?_; simp only [N]
      refine wq_run rfl (fun w H => rp_loadN H 0 rfl rfl rfl Tryz.underlying56 rfl sz56 (Nat.le_of_ble_eq_true rfl) (cs' := ((p.threads.l.getD ((v80.thread).toNat) default).l.getD ((cb2.getD ((v80.thread).toNat * 9) 0).toNat) default).a.cells) rfl) ?_; simp only [N]
      refine wq_run rfl (fun w H => rp_move rfl (v := iv (v72 : Int)) rfl) ?_; simp only [N]
      refine wq_run rfl (fun w H => rp_fieldAddr rfl Tryz.underlying41 rfl 0 rfl sz33 rfl 0 rfl) ?_; simp only [N]
      refine wq_run rfl (fun w H => rp_indexAddr_arr rfl Tryz.underlying33 sz32 rfl v72 rfl (by omega) (v72 * 9) (by omega)) ?_; simp only [N]
      refine wq_run rfl (fun w H => rp_fieldAddr rfl Tryz.underlying32 rfl 1 rfl sz30 rfl (v72 * 9 + 1) (by omega)) ?_; simp only [N]
      refine wq_run rfl (fun w H => rp_loadNA H 6 rfl rfl rfl Tryz.underlying30 rfl sz30 (v72 * 9 + 1)) ?_; simp only [N]
      refine wq_call rfl (rc_go Tryz.func16 (by kernel_rfl) rfl) (fun w H => worth_spec ((p.threads.l.getD ((v80.thread).toNat) default).l.getD ((cb2.getD ((v80.thread).toNat * 9) 0).toNat) default).a ((cb2.drop (v72 * 9 + 1)).take 8) (by first | omega | simp [-List.reduceReplicate] <;> omega | simp [*, -List.reduceReplicate] <;> omega) _) ?_; simp only [N]
      refine wq_run rfl (fun w H => rp_assign rfl (v := bv (worth ((p.threads.l.getD ((v80.thread).toNat) default).l.getD ((cb2.getD ((v80.thread).toNat * 9) 0).toNat) default).a ((cb2.drop (v72 * 9 + 1)).take 8))) rfl) ?_; simp only [N]
      refine wq_nil ?_
      clear H; intro w28 H
      refine wsr ?_
      refine wmv dvrow1 ?_; simp only [N]
      refine wr (rp_fieldAddr rfl Tryz.underlying58 rfl 2 rfl sz5 rfl 2 rfl) ?_; simp only [N]
      refine wr (rp_load1 H 0 rfl rfl rfl Tryz.underlying5 rfl (v := bv ((p.threads.l.getD ((v80.thread).toNat) default).l.getD ((cb2.getD ((v80.thread).toNat * 9) 0).toNat) default).loc) rfl) ?_; simp only [N]
      refine wmv (bv (worth ((p.threads.l.getD ((v80.thread).toNat) default).l.getD ((cb2.getD ((v80.thread).toNat * 9) 0).toNat) default).a ((cb2.drop (v72 * 9 + 1)).take 8))) ?_; simp only [N]
      refine wr (rp_build rfl (vs := [(0, bv ((p.threads.l.getD ((v80.thread).toNat) default).l.getD ((cb2.getD ((v80.thread).toNat * 9) 0).toNat) default).loc), (1, bv (worth ((p.threads.l.getD ((v80.thread).toNat) default).l.getD ((cb2.getD ((v80.thread).toNat * 9) 0).toNat) default).a ((cb2.drop (v72 * 9 + 1)).take 8)))]) rfl (cs := #[bv ((p.threads.l.getD ((v80.thread).toNat) default).l.getD ((cb2.getD ((v80.thread).toNat * 9) 0).toNat) default).loc, bv (worth ((p.threads.l.getD ((v80.thread).toNat) default).l.getD ((cb2.getD ((v80.thread).toNat * 9) 0).toNat) default).a ((cb2.drop (v72 * 9 + 1)).take 8))]) (by kernel_rfl)) ?_; simp only [N]
      refine wl_xallocF H rfl (xa_buildSlice rfl Tryz.underlying68 sz36 zv36 (by decide) (by decide) (vs := [(0, .agg #[bv ((p.threads.l.getD ((v80.thread).toNat) default).l.getD ((cb2.getD ((v80.thread).toNat * 9) 0).toNat) default).loc, bv (worth ((p.threads.l.getD ((v80.thread).toNat) default).l.getD ((cb2.getD ((v80.thread).toNat * 9) 0).toNat) default).a ((cb2.drop (v72 * 9 + 1)).take 8))])]) rfl (cs := #[bv ((p.threads.l.getD ((v80.thread).toNat) default).l.getD ((cb2.getD ((v80.thread).toNat * 9) 0).toNat) default).loc, bv (worth ((p.threads.l.getD ((v80.thread).toNat) default).l.getD ((cb2.getD ((v80.thread).toNat * 9) 0).toNat) default).a ((cb2.drop (v72 * 9 + 1)).take 8))]) (by kernel_rfl)) ?_
      clear H; intro b8 w29 hnb8 H
      simp only [N]
      refine wl_appendT Sto.cells H 2 rfl Tryz.underlying68 sz36 zv36 by36 rfl (by decide) rfl rfl (ad := ⟨b8, 0, none⟩) (m := 1) (c := 1) rfl [(⟨((p.threads.l.getD ((v80.thread).toNat) default).l.getD ((cb2.getD ((v80.thread).toNat * 9) 0).toNat) default).loc, (worth ((p.threads.l.getD ((v80.thread).toNat) default).l.getD ((cb2.getD ((v80.thread).toNat * 9) 0).toNat) default).a ((cb2.drop (v72 * 9 + 1)).take 8))⟩ : Sto)] rfl Sto.cells_n (fun j u hu => cell_of_news (H.ro_at 0 rfl) j u hu) (by intro x; simp [Sto.cells, Value.oneCell']) (by first | omega | (simp only [List.length_append, List.length_cons, List.length_nil]; omega)) (by first | omega | (simp only [List.length_append, List.length_cons, List.length_nil]; omega)) (by simp) ?_
      clear H; intro b9 w30 H; simp only [M] at H
      simp only [N]
      refine wasg b9 ?_; simp only [N]
      refine wpList_nil ?_
      replace H := H.order [5, 3, 0, 1, 2, 4, 6, 7, 8] rfl (L' := [.blk b3 (.cells (encB cb3).toArray 69 (0, 0)), .blk b5 (.cells (enc cb5).toArray 34 (0, 0)), .blk bd25 (.cells (((p.threads.l.getD ((v80.thread).toNat) default).l.getD ((cb2.getD ((v80.thread).toNat * 9) 0).toNat) default).cells).toArray 58 (0, 0)), .blk b6 (.cells (v80.cells).toArray 50 (0, 0)), .row b9 36 2 (drow1 ++ [(⟨((p.threads.l.getD ((v80.thread).toNat) default).l.getD ((cb2.getD ((v80.thread).toNat * 9) 0).toNat) default).loc, (worth ((p.threads.l.getD ((v80.thread).toNat) default).l.getD ((cb2.getD ((v80.thread).toNat * 9) 0).toNat) default).a ((cb2.drop (v72 * 9 + 1)).take 8))⟩ : Sto)]).length ((drow1 ++ [(⟨((p.threads.l.getD ((v80.thread).toNat) default).l.getD ((cb2.getD ((v80.thread).toNat * 9) 0).toNat) default).loc, (worth ((p.threads.l.getD ((v80.thread).toNat) default).l.getD ((cb2.getD ((v80.thread).toNat * 9) 0).toNat) default).a ((cb2.drop (v72 * 9 + 1)).take 8))⟩ : Sto)]).flatMap Sto.cells), .blk b4 (.cells (encB cb4).toArray 69 (0, 0)), .blk b2 (.cells (enc cb2).toArray 41 (0, 0)), .blk bd10 (.cells (enc (bPlayF p a9 (picks.l.take (min picks.l.length 100))).1).toArray 64 (0, 0)), .blk b1 (.cells (p.cells).toArray 29 (0, 0))]) rfl
      refine wp_region_lend 9 [.blk b3 (.cells (encB cb3).toArray 69 (0, 0)), .blk b5 (.cells (enc cb5).toArray 34 (0, 0))] H (fun r hr b hb => (H.new r (List.mem_append_left _ hr) b hb).resolve_right (by simp)) (by kernel_rfl) ?_
      refine wxl_tk 0 rfl (xy_run rfl (fun w H => rp_fieldAddr rfl Tryz.underlying58 rfl 2 rfl sz5 rfl 2 rfl)) ?_; simp only [N]
      refine wxl_tk 1 rfl (xy_run rfl (fun w H => rp_load1 H 0 rfl rfl rfl Tryz.underlying5 rfl (v := bv ((p.threads.l.getD ((v80.thread).toNat) default).l.getD ((cb2.getD ((v80.thread).toNat * 9) 0).toNat) default).loc) rfl)) ?_; simp only [N]
      refine wxl_tk 2 rfl (xy_run rfl (fun w H => rp_fieldAddr rfl Tryz.underlying58 rfl 2 rfl sz5 rfl 2 rfl)) ?_; simp only [N]
      refine wxl_tk 3 rfl (xy_run rfl (fun w H => rp_load1 H 0 rfl rfl rfl Tryz.underlying5 rfl (v := bv ((p.threads.l.getD ((v80.thread).toNat) default).l.getD ((cb2.getD ((v80.thread).toNat * 9) 0).toNat) default).loc) rfl)) ?_; simp only [N]
      refine wxl_tk 4 rfl (xy_run rfl (fun w H => rp_move rfl (v := bv (worth ((p.threads.l.getD ((v80.thread).toNat) default).l.getD ((cb2.getD ((v80.thread).toNat * 9) 0).toNat) default).a ((cb2.drop (v72 * 9 + 1)).take 8))) rfl)) ?_; simp only [N]
      refine wxl_tk 5 rfl (xy_run rfl (fun w H => rp_indexAddr_arr rfl Tryz.underlying69 sz4 rfl (((p.threads.l.getD ((v80.thread).toNat) default).l.getD ((cb2.getD ((v80.thread).toNat * 9) 0).toNat) default).loc).toNat rfl (by omega) ((((p.threads.l.getD ((v80.thread).toNat) default).l.getD ((cb2.getD ((v80.thread).toNat * 9) 0).toNat) default).loc).toNat) (by omega))) ?_; simp only [N]
      refine wxl_store 6 0 rfl rfl (by kernel_rfl) rfl rfl (xs_1b rfl rfl true rfl sz4 ((((p.threads.l.getD ((v80.thread).toNat) default).l.getD ((cb2.getD ((v80.thread).toNat * 9) 0).toNat) default).loc).toNat) rfl (by first | omega | simp [-List.reduceReplicate] <;> omega | simp [*, -List.reduceReplicate] <;> omega)) ?_
      simp only [N, M, Value.cells]
      refine wxl_tk 7 rfl (xy_run rfl (fun w H => rp_indexAddr_arr rfl Tryz.underlying34 sz5 rfl (((p.threads.l.getD ((v80.thread).toNat) default).l.getD ((cb2.getD ((v80.thread).toNat * 9) 0).toNat) default).loc).toNat rfl (by omega) ((((p.threads.l.getD ((v80.thread).toNat) default).l.getD ((cb2.getD ((v80.thread).toNat * 9) 0).toNat) default).loc).toNat) (by omega))) ?_; simp only [N]
      refine wxl_store 8 1 rfl rfl (by kernel_rfl) rfl rfl (xs_1e rfl rfl (worth ((p.threads.l.getD ((v80.thread).toNat) default).l.getD ((cb2.getD ((v80.thread).toNat * 9) 0).toNat) default).a ((cb2.drop (v72 * 9 + 1)).take 8)) rfl sz5 ((((p.threads.l.getD ((v80.thread).toNat) default).l.getD ((cb2.getD ((v80.thread).toNat * 9) 0).toNat) default).loc).toNat) rfl (by first | omega | simp [-List.reduceReplicate] <;> omega | simp [*, -List.reduceReplicate] <;> omega)) ?_
      simp only [N, M, Value.cells]
      refine wpX_done (by kernel_rfl) ?_ _
      clear H; intro w31 H; simp only [List.cons_append, List.nil_append] at H
      replace H := H.dropNew 2 rfl (foot_blk (H.newrow 2 rfl _ rfl)); simp only [m5, m6] at H
      replace H := H.facts (R' := [SlIn 3 Pass.cells (⟨xd41_.1, xd41_.2, (bPlayF p a9 (picks.l.take (min picks.l.length 100))).2.1⟩ : Sl Pass), IsProg p, SlIn 1 eByte picks, Glob]) (by first | exact fun _ h => h | simp)
      exact ⟨(cb3.set ((((p.threads.l.getD ((v80.thread).toNat) default).l.getD ((cb2.getD ((v80.thread).toNat * 9) 0).toNat) default).loc).toNat) true), (cb5.set ((((p.threads.l.getD ((v80.thread).toNat) default).l.getD ((cb2.getD ((v80.thread).toNat * 9) 0).toNat) default).loc).toNat) (worth ((p.threads.l.getD ((v80.thread).toNat) default).l.getD ((cb2.getD ((v80.thread).toNat * 9) 0).toNat) default).a ((cb2.drop (v72 * 9 + 1)).take 8))), (drow1 ++ [(⟨((p.threads.l.getD ((v80.thread).toNat) default).l.getD ((cb2.getD ((v80.thread).toNat * 9) 0).toNat) default).loc, (worth ((p.threads.l.getD ((v80.thread).toNat) default).l.getD ((cb2.getD ((v80.thread).toNat * 9) 0).toNat) default).a ((cb2.drop (v72 * 9 + 1)).take 8))⟩ : Sto)]), cb4, b9, (by kernel_rfl), H, (by first | omega | simp [-List.reduceReplicate] <;> omega | simp [*, -List.reduceReplicate] <;> omega), (by first | omega | simp [-List.reduceReplicate] <;> omega | simp [*, -List.reduceReplicate] <;> omega), (by first | omega | simp [-List.reduceReplicate] <;> omega | simp [*, -List.reduceReplicate] <;> omega), (by first | exact hjd0 | exact sto_put hjd0 hri7.2), (by first | omega | (simp only [List.length_append, List.length_cons, List.length_nil]; omega)), hFd.trans ((bt hc7).trans (bt hc8))⟩
     · --F 8
      refine wsr ?_
      refine wmv (.bool ((((p.threads.l.getD ((v80.thread).toNat) default).l.getD ((cb2.getD ((v80.thread).toNat * 9) 0).toNat) default).op == (2 : UInt8)) || ((decide ((4 : UInt8) ≤ ((p.threads.l.getD ((v80.thread).toNat) default).l.getD ((cb2.getD ((v80.thread).toNat * 9) 0).toNat) default).op)) && (decide (((p.threads.l.getD ((v80.thread).toNat) default).l.getD ((cb2.getD ((v80.thread).toNat * 9) 0).toNat) default).op ≤ (6 : UInt8)))))) ?_; simp only [N]
      refine wmv (.bool ((((p.threads.l.getD ((v80.thread).toNat) default).l.getD ((cb2.getD ((v80.thread).toNat * 9) 0).toNat) default).op == (2 : UInt8)) || ((decide ((4 : UInt8) ≤ ((p.threads.l.getD ((v80.thread).toNat) default).l.getD ((cb2.getD ((v80.thread).toNat * 9) 0).toNat) default).op)) && (decide (((p.threads.l.getD ((v80.thread).toNat) default).l.getD ((cb2.getD ((v80.thread).toNat * 9) 0).toNat) default).op ≤ (6 : UInt8)))))) ?_; simp only [N]
      refine wl_g (wn_t rfl rfl) (v := .pointer (some ⟨b6, 0, none⟩)) (fun hg => rp_fieldAddr rfl Tryz.underlying50 rfl 0 rfl sz5 rfl 0 rfl) ?_; simp only [N]
      refine wl_g (wn_t rfl rfl) (v := bv v80.thread) (fun hg => by simp only [gv_t hg]; exact rp_load1 H 1 rfl rfl rfl Tryz.underlying5 rfl (v := bv v80.thread) rfl) ?_; simp only [N]
      refine wl_g (wn_t rfl rfl) (v := iv ((v80.thread).toNat : Int)) (fun hg => by simp only [gv_t hg]; exact rp_u8_to_int rfl Tryz.underlying5 Tryz.underlying3 v80.thread rfl) ?_; simp only [N]
      refine wl_g (wn_t rfl rfl) (v := iv (v72 : Int)) (fun hg => rp_move rfl (v := iv (v72 : Int)) rfl) ?_; simp only [N]
      refine wl_g (wn_t rfl rfl) (v := .bool (((v80.thread).toNat : Int) != (v72 : Int))) (fun hg => by simp only [gv_t hg]; exact rp_int_neq rfl ((v80.thread).toNat : Int) (v72 : Int) rfl rfl) ?_; simp only [N]
      refine wr (rp_pickA rfl (p := ((((p.threads.l.getD ((v80.thread).toNat) default).l.getD ((cb2.getD ((v80.thread).toNat * 9) 0).toNat) default).op == (2 : UInt8)) || ((decide ((4 : UInt8) ≤ ((p.threads.l.getD ((v80.thread).toNat) default).l.getD ((cb2.getD ((v80.thread).toNat * 9) 0).toNat) default).op)) && (decide (((p.threads.l.getD ((v80.thread).toNat) default).l.getD ((cb2.getD ((v80.thread).toNat * 9) 0).toNat) default).op ≤ (6 : UInt8)))))) (q := (((v80.thread).toNat : Int) != (v72 : Int))) rfl rfl rfl) ?_; simp only [N]
      refine wasg (.bool (((((p.threads.l.getD ((v80.thread).toNat) default).l.getD ((cb2.getD ((v80.thread).toNat * 9) 0).toNat) default).op == (2 : UInt8)) || ((decide ((4 : UInt8) ≤ ((p.threads.l.getD ((v80.thread).toNat) default).l.getD ((cb2.getD ((v80.thread).toNat * 9) 0).toNat) default).op)) && (decide (((p.threads.l.getD ((v80.thread).toNat) default).l.getD ((cb2.getD ((v80.thread).toNat * 9) 0).toNat) default).op ≤ (6 : UInt8))))) && (((v80.thread).toNat : Int) != (v72 : Int)))) ?_; simp only [N]
      refine wpList_nil ?_
      refine wp_cond_split rfl (fun hc9 => ?_) (fun hc9 => ?_)
      · --T 9
       have hc9N76 : ((v80.thread).toNat : Int) ≠ (v72 : Int) := (by simpa using (andr hc9))
       refine wp_region_lit ?_; refine wr (rp_fieldAddr rfl Tryz.underlying58 rfl 2 rfl sz5 rfl 2 rfl) ?_; simp only [N]
       refine wr (rp_load1 H 0 rfl rfl rfl Tryz.underlying5 rfl (v := bv ((p.threads.l.getD ((v80.thread).toNat) default).l.getD ((cb2.getD ((v80.thread).toNat * 9) 0).toNat) default).loc) rfl) ?_; simp only [N]
       refine wr (rp_indexAddr_arr rfl Tryz.underlying69 sz4 rfl (((p.threads.l.getD ((v80.thread).toNat) default).l.getD ((cb2.getD ((v80.thread).toNat * 9) 0).toNat) default).loc).toNat rfl (by omega) ((((p.threads.l.getD ((v80.thread).toNat) default).l.getD ((cb2.getD ((v80.thread).toNat * 9) 0).toNat) default).loc).toNat) (by omega)) ?_; simp only [N]
       refine wl_store1b H 4 rfl rfl rfl rfl true rfl sz4 ((((p.threads.l.getD ((v80.thread).toNat) default).l.getD ((cb2.getD ((v80.thread).toNat * 9) 0).toNat) default).loc).toNat) rfl (by first | omega | simp [-List.reduceReplicate] <;> omega | simp [*, -List.reduceReplicate] <;> omega) ?_
       clear H; intro w32 H; simp only [M] at H
       simp only [N]
       refine wpList_nil ?_
       replace H := H.dropNew 0 rfl (foot_blk (H.newrow 0 rfl _ rfl)); simp only [m5, m6] at H
       replace H := H.order [4, 2, 0, 1, 3, 5, 6, 7] rfl (L' := [.blk b3 (.cells (encB cb3).toArray 69 (0, 0)), .blk b5 (.cells (enc cb5).toArray 34 (0, 0)), .blk b6 (.cells (v80.cells).toArray 50 (0, 0)), .row dvrow1 36 2 drow1.length (drow1.flatMap Sto.cells), .blk b4 (.cells (encB (cb4.set ((((p.threads.l.getD ((v80.thread).toNat) default).l.getD ((cb2.getD ((v80.thread).toNat * 9) 0).toNat) default).loc).toNat) true)).toArray 69 (0, 0)), .blk b2 (.cells (enc cb2).toArray 41 (0, 0)), .blk bd10 (.cells (enc (bPlayF p a9 (picks.l.take (min picks.l.length 100))).1).toArray 64 (0, 0)), .blk b1 (.cells (p.cells).toArray 29 (0, 0))]) rfl
       exact ⟨cb3, cb5, drow1, (cb4.set ((((p.threads.l.getD ((v80.thread).toNat) default).l.getD ((cb2.getD ((v80.thread).toNat * 9) 0).toNat) default).loc).toNat) true), dvrow1, (by kernel_rfl), H, (by first | omega | simp [-List.reduceReplicate] <;> omega | simp [*, -List.reduceReplicate] <;> omega), (by first | omega | simp [-List.reduceReplicate] <;> omega | simp [*, -List.reduceReplicate] <;> omega), (by first | omega | simp [-List.reduceReplicate] <;> omega | simp [*, -List.reduceReplicate] <;> omega), (by first | exact hjd0 | exact sto_put hjd0 hri7.2), (by first | omega | (simp only [List.length_append, List.length_cons, List.length_nil]; omega)), hFd.trans ((bt hc7).trans ((bf hc8).trans (bt hc9)))⟩
      · --F 9
       refine wp_skip ?_
       replace H := H.dropNew 0 rfl (foot_blk (H.newrow 0 rfl _ rfl)); simp only [m5, m6] at H
       replace H := H.order [4, 2, 0, 1, 3, 5, 6, 7] rfl (L' := [.blk b3 (.cells (encB cb3).toArray 69 (0, 0)), .blk b5 (.cells (enc cb5).toArray 34 (0, 0)), .blk b6 (.cells (v80.cells).toArray 50 (0, 0)), .row dvrow1 36 2 drow1.length (drow1.flatMap Sto.cells), .blk b4 (.cells (encB cb4).toArray 69 (0, 0)), .blk b2 (.cells (enc cb2).toArray 41 (0, 0)), .blk bd10 (.cells (enc (bPlayF p a9 (picks.l.take (min picks.l.length 100))).1).toArray 64 (0, 0)), .blk b1 (.cells (p.cells).toArray 29 (0, 0))]) rfl
       exact ⟨cb3, cb5, drow1, cb4, dvrow1, (by kernel_rfl), H, (by first | omega | simp [-List.reduceReplicate] <;> omega | simp [*, -List.reduceReplicate] <;> omega), (by first | omega | simp [-List.reduceReplicate] <;> omega | simp [*, -List.reduceReplicate] <;> omega), (by first | omega | simp [-List.reduceReplicate] <;> omega | simp [*, -List.reduceReplicate] <;> omega), (by first | exact hjd0 | exact sto_put hjd0 hri7.2), (by first | omega | (simp only [List.length_append, List.length_cons, List.length_nil]; omega)), hFd.trans ((bt hc7).trans ((bf hc8).trans (bf hc9)))⟩
    · --F 7
     refine wp_skip ?_
     replace H := H.order [4, 2, 0, 1, 3, 5, 6, 7] rfl (L' := [.blk b3 (.cells (encB cb3).toArray 69 (0, 0)), .blk b5 (.cells (enc cb5).toArray 34 (0, 0)), .blk b6 (.cells (v80.cells).toArray 50 (0, 0)), .row dvrow1 36 2 drow1.length (drow1.flatMap Sto.cells), .blk b4 (.cells (encB cb4).toArray 69 (0, 0)), .blk b2 (.cells (enc cb2).toArray 41 (0, 0)), .blk bd10 (.cells (enc (bPlayF p a9 (picks.l.take (min picks.l.length 100))).1).toArray 64 (0, 0)), .blk b1 (.cells (p.cells).toArray 29 (0, 0))]) rfl
     exact ⟨cb3, cb5, drow1, cb4, dvrow1, (by kernel_rfl), H, (by first | omega | simp [-List.reduceReplicate] <;> omega | simp [*, -List.reduceReplicate] <;> omega), (by first | omega | simp [-List.reduceReplicate] <;> omega | simp [*, -List.reduceReplicate] <;> omega), (by first | omega | simp [-List.reduceReplicate] <;> omega | simp [*, -List.reduceReplicate] <;> omega), (by first | exact hjd0 | exact sto_put hjd0 hri7.2), (by first | omega | (simp only [List.length_append, List.length_cons, List.length_nil]; omega)), hFd.trans (bf hc7)⟩
   clear H
   rintro a_ w33 ⟨gb3, gb5, grow1, gb4, gvrow1, ha_, H, hjg0, hjg1, hjg2, hjg3, hjg4, hFg⟩
   obtain ⟨ug, hu_⟩ : ∃ u : Nat → Value, ∀ n, tq a_ n = u n := ⟨_, fun _ => rfl⟩
   try simp only [hu_] at ha_
   clear hu_; subst ha_
   refine wsr ?_
   refine wr (rp_loadN H 7 rfl rfl rfl Tryz.underlying29 rfl sz29 (Nat.le_of_ble_eq_true rfl) (cs' := p.cells) rfl) ?_; simp only [N]
   refine wmv (bv a9) ?_; simp only [N]
   refine wr (rp_loadWA H 5 rfl rfl rfl Tryz.underlying41 rfl sz41 rfl) ?_; simp only [N]
   refine wr (rp_loadN H 2 rfl rfl rfl Tryz.underlying50 rfl sz50 (Nat.le_of_ble_eq_true rfl) (cs' := v80.cells) rfl) ?_; simp only [N]
   refine wl_callE H rfl (rc_go Tryz.func13 (by kernel_rfl) rfl) (bMoveF_spec p a9 cb2 v80 (by first | omega | simp [-List.reduceReplicate] <;> omega | simp [*, -List.reduceReplicate] <;> omega) _ (H.ro_at 1 rfl) (H.ro_at 3 rfl)) ?_
   clear H; intro w34 H
   simp only [N]
   refine wmv (.tuple #[.agg (enc (bMoveF p a9 cb2 v80).1).toArray, iv (bMoveF p a9 cb2 v80).2]) ?_; simp only [N]
   refine wr (rp_extract rfl rfl (v := .agg (enc (bMoveF p a9 cb2 v80).1).toArray) rfl) ?_; simp only [N]
   refine wr (rp_extract rfl rfl (v := iv (bMoveF p a9 cb2 v80).2) rfl) ?_; simp only [N]
   refine wl_alloc H rfl rfl zv41 ?_
   clear H; intro b10 w35 hnb10 H; dsimp only [Value.cells] at H
   simp only [N]
   simp only [enc_replicate] at H
   refine wl_storeA H 0 rfl rfl rfl rfl (bMoveF p a9 cb2 v80).1 rfl sz41 ?_
   clear H; intro w36 H; simp only [M] at H
   simp only [N]
   refine wasg (iv (bMoveF p a9 cb2 v80).2) ?_; simp only [N]
   refine wpList_nil ?_
   refine wp_seq ?_; refine wsr ?_
   refine wmv (iv (bMoveF p a9 cb2 v80).2) ?_; simp only [N]
   refine wr (rp_int_neq rfl (bMoveF p a9 cb2 v80).2 (0 : Int) rfl rfl) ?_; simp only [N]
   refine wpList_nil ?_
   refine wp_cond_split rfl (fun hc10 => ?_) (fun hc10 => ?_)
   · --T 10
    have hc10N77 : (bMoveF p a9 cb2 v80).2 ≠ (0 : Int) := (by simpa using hc10)
    refine wsr ?_
    refine wasg (.bool false) ?_; simp only [N]
    refine wpList_nil ?_
    refine wp_ret ?_
    try simp only [Exit.inBlock, Exit.then, cutP]
    refine bodyPost_ret (results1 rfl (rv_tmp rfl)) rfl ?_
    have hF : (orderF p pso picks.l which) = false := hFg.trans (bt hc10)
    rw [hF]
    exact ⟨rfl, H.ext⟩
   · --F 10
    have hc10N78 : (bMoveF p a9 cb2 v80).2 = (0 : Int) := (by simpa using hc10)
    refine wp_skip ?_
    refine wp_seq ?_; refine wsr ?_
    refine wr (rp_fieldAddr rfl Tryz.underlying50 rfl 1 rfl sz4 rfl 1 rfl) ?_; simp only [N]
    refine wr (rp_load1 H 3 rfl rfl rfl Tryz.underlying4 rfl (v := .bool v80.drain) rfl) ?_; simp only [N]
    refine wr (rp_not rfl v80.drain rfl) ?_; simp only [N]
    refine wmv (.bool (!v80.drain)) ?_; simp only [N]
    refine wl_g (wn_t rfl rfl) (v := .pointer (some ⟨b6, 0, none⟩)) (fun hg => rp_fieldAddr rfl Tryz.underlying50 rfl 0 rfl sz5 rfl 0 rfl) ?_; simp only [N]
    refine wl_g (wn_t rfl rfl) (v := bv v80.thread) (fun hg => by simp only [gv_t hg]; exact rp_load1 H 3 rfl rfl rfl Tryz.underlying5 rfl (v := bv v80.thread) rfl) ?_; simp only [N]
    refine wl_g (wn_t rfl rfl) (v := iv ((v80.thread).toNat : Int)) (fun hg => by simp only [gv_t hg]; exact rp_u8_to_int rfl Tryz.underlying5 Tryz.underlying3 v80.thread rfl) ?_; simp only [N]
    refine wl_g (wn_t rfl rfl) (v := iv (v72 : Int)) (fun hg => rp_move rfl (v := iv (v72 : Int)) rfl) ?_; simp only [N]
    refine wl_g (wn_t rfl rfl) (v := .bool (((v80.thread).toNat : Int) == (v72 : Int))) (fun hg => by simp only [gv_t hg]; exact rp_int_eql rfl ((v80.thread).toNat : Int) (v72 : Int) rfl rfl) ?_; simp only [N]
    refine wr (rp_pickA rfl (p := (!v80.drain)) (q := (((v80.thread).toNat : Int) == (v72 : Int))) rfl rfl rfl) ?_; simp only [N]
    refine wpList_nil ?_
    refine wp_cond_split rfl (fun hc11 => ?_) (fun hc11 => ?_)
    · --T 11
     have hc11N79 : ((v80.thread).toNat : Int) = (v72 : Int) := (by simpa using (andr hc11))
     have hd11 : v80.drain = false := by simpa using andl hc11
     have ht11 : v80.thread.toNat = v72 := by have h := andr hc11; rw [beq_iff_eq] at h; omega
     have hri8 := hri (by omega) hd11
     rw [ht11] at hri8
     have hri81 := hri8.1
     have hri82 := hri8.2
     refine wp_seq ?_; refine wp_region_mix 14 H (by kernel_rfl) ?_
     refine wxl_tk 0 rfl (xy_run rfl (fun w H => rp_fieldAddr rfl Tryz.underlying29 rfl 3 rfl sz24 rfl 3 rfl)) ?_; simp only [N]
     refine wxl_tk 1 rfl (xy_run rfl (fun w H => rp_load1 H 8 rfl rfl rfl Tryz.underlying24 rfl (v := p.threads.val) rfl)) ?_; simp only [N]
     refine wxl_tk 2 rfl (xy_run rfl (fun w H => rp_move rfl (v := iv (v72 : Int)) rfl)) ?_; simp only [N]
     refine wxl_tk 3 rfl (xy_run rfl (fun w H => rp_indexAddr_sl (IsProg.threads (H.ro_at 1 rfl)) rfl Tryz.underlying24 sz59 rfl v72 rfl (by omega))) ?_; simp only [N]
     refine wxl_tk 4 rfl (xy_run rfl (fun w H => rp_load1_sl (IsProg.threads (H.ro_at 1 rfl)) v72 (by omega) rfl Tryz.underlying59 rfl 0 rfl (by omega) (v := (p.threads.l.getD v72 default).val) rfl)) ?_; simp only [N]
     refine wxl_tk 5 rfl (xy_run rfl (fun w H => rp_move rfl (v := iv (v72 : Int)) rfl)) ?_; simp only [N]
     refine wxl_tk 6 rfl (xy_run rfl (fun w H => rp_fieldAddr rfl Tryz.underlying41 rfl 0 rfl sz33 rfl 0 rfl)) ?_; simp only [N]
     refine wxl_tk 7 rfl (xy_run rfl (fun w H => rp_indexAddr_arr rfl Tryz.underlying33 sz32 rfl v72 rfl (by omega) (v72 * 9) (by omega))) ?_; simp only [N]
     refine wxl_tk 8 rfl (xy_run rfl (fun w H => rp_fieldAddr rfl Tryz.underlying32 rfl 0 rfl sz5 rfl (v72 * 9) (by omega))) ?_; simp only [N]
     refine wxl_tk 9 rfl (xy_run rfl (fun w H => rp_load1A H 6 rfl rfl rfl Tryz.underlying5 rfl (v72 * 9) rfl)) ?_; simp only [N]
     refine wxl_tk 10 rfl (xy_run rfl (fun w H => rp_indexAddr_sl (IsProg.ins_at (H.ro_at 1 rfl) (t := v72) (by omega)) rfl Tryz.underlying59 sz58 rfl (cb2.getD (v72 * 9) 0).toNat rfl (by omega))) ?_; simp only [N]
     refine wxl_tk 11 rfl (xy_run rfl (fun w H => rp_loadN_sl (IsProg.ins_at (H.ro_at 1 rfl) (t := v72) (by omega)) ((cb2.getD (v72 * 9) 0).toNat) (by omega) rfl Tryz.underlying58 rfl rfl sz58)) ?_; simp only [N]
     refine wxl_alloc 12 rfl rfl (by kernel_rfl) rfl (xa_alloc rfl zv58) ?_
     intro bd30
     simp only [N, M, Value.cells]
     refine wxl_store 13 0 rfl rfl (by kernel_rfl) rfl rfl (xs_whole rfl rfl (vs := (((p.threads.l.getD v72 default).l.getD ((cb2.getD (v72 * 9) 0).toNat) default).cells).toArray) rfl (Ins.cells_one _) (by first | exact sz58 | (rw [sz58]; congr 1; first | omega | simp [-List.reduceReplicate] <;> omega | simp [*, -List.reduceReplicate] <;> omega)) (by first | rfl | first | omega | simp [-List.reduceReplicate] <;> omega | simp [*, -List.reduceReplicate] <;> omega)) ?_
     simp only [N, M, Value.cells]
     refine wpX_done (by kernel_rfl) ?_ _
     clear H; intro w37 H; simp only [List.cons_append, List.nil_append] at H
     refine wsr ?_
     refine wr (rp_fieldAddr rfl Tryz.underlying58 rfl 0 rfl sz5 rfl 0 rfl) ?_; simp only [N]
     refine wr (rp_load1 H 0 rfl rfl rfl Tryz.underlying5 rfl (v := bv ((p.threads.l.getD v72 default).l.getD ((cb2.getD (v72 * 9) 0).toNat) default).op) rfl) ?_; simp only [N]
     refine wr (rp_u8_geq rfl ((p.threads.l.getD v72 default).l.getD ((cb2.getD (v72 * 9) 0).toNat) default).op (4 : UInt8) rfl rfl) ?_; simp only [N]
     refine wmv (.bool (decide ((4 : UInt8) ≤ ((p.threads.l.getD v72 default).l.getD ((cb2.getD (v72 * 9) 0).toNat) default).op))) ?_; simp only [N]
     refine wl_g (wn_t rfl rfl) (v := .pointer (some ⟨bd30, 0, none⟩)) (fun hg => rp_fieldAddr rfl Tryz.underlying58 rfl 0 rfl sz5 rfl 0 rfl) ?_; simp only [N]
     refine wl_g (wn_t rfl rfl) (v := bv ((p.threads.l.getD v72 default).l.getD ((cb2.getD (v72 * 9) 0).toNat) default).op) (fun hg => by have x81 : 4 ≤ (((p.threads.l.getD v72 default).l.getD ((cb2.getD (v72 * 9) 0).toNat) default).op).toNat := u8_le hg; exact (by simp only [gv_t hg]; exact rp_load1 H 0 rfl rfl rfl Tryz.underlying5 rfl (v := bv ((p.threads.l.getD v72 default).l.getD ((cb2.getD (v72 * 9) 0).toNat) default).op) rfl)) ?_; simp only [N]
     refine wl_g (wn_t rfl rfl) (v := .bool (decide (((p.threads.l.getD v72 default).l.getD ((cb2.getD (v72 * 9) 0).toNat) default).op ≤ (6 : UInt8)))) (fun hg => by have x82 : 4 ≤ (((p.threads.l.getD v72 default).l.getD ((cb2.getD (v72 * 9) 0).toNat) default).op).toNat := u8_le hg; exact (by simp only [gv_t hg]; exact rp_u8_leq rfl ((p.threads.l.getD v72 default).l.getD ((cb2.getD (v72 * 9) 0).toNat) default).op (6 : UInt8) rfl rfl)) ?_; simp only [N]
     refine wr (rp_pickA rfl (p := (decide ((4 : UInt8) ≤ ((p.threads.l.getD v72 default).l.getD ((cb2.getD (v72 * 9) 0).toNat) default).op))) (q := (decide (((p.threads.l.getD v72 default).l.getD ((cb2.getD (v72 * 9) 0).toNat) default).op ≤ (6 : UInt8)))) rfl rfl rfl) ?_; simp only [N]
     refine wpList_nil ?_
     refine wp_cond_split rfl (fun hc12 => ?_) (fun hc12 => ?_)
     · --T 12
      have hc12N83 : 4 ≤ (((p.threads.l.getD v72 default).l.getD ((cb2.getD (v72 * 9) 0).toNat) default).op).toNat := u8_le (andl hc12)
      have hc12N84 : (((p.threads.l.getD v72 default).l.getD ((cb2.getD (v72 * 9) 0).toNat) default).op).toNat ≤ 6 := u8_le (andr hc12)
      refine wp_region_mix 8 H (by kernel_rfl) ?_
      refine wxl_tk 0 rfl (xy_run rfl (fun w H => rp_fieldAddr rfl Tryz.underlying58 rfl 2 rfl sz5 rfl 2 rfl)) ?_; simp only [N]
      refine wxl_tk 1 rfl (xy_run rfl (fun w H => rp_load1 H 0 rfl rfl rfl Tryz.underlying5 rfl (v := bv ((p.threads.l.getD v72 default).l.getD ((cb2.getD (v72 * 9) 0).toNat) default).loc) rfl)) ?_; simp only [N]
      refine wxl_tk 2 rfl (xy_run rfl (fun w H => rp_fieldAddr rfl Tryz.underlying58 rfl 2 rfl sz5 rfl 2 rfl)) ?_; simp only [N]
      refine wxl_tk 3 rfl (xy_run rfl (fun w H => rp_load1 H 0 rfl rfl rfl Tryz.underlying5 rfl (v := bv ((p.threads.l.getD v72 default).l.getD ((cb2.getD (v72 * 9) 0).toNat) default).loc) rfl)) ?_; simp only [N]
      refine wxl_tk 4 rfl (xy_run rfl (fun w H => rp_fieldAddr rfl Tryz.underlying41 rfl 36 rfl sz34 rfl 36 rfl)) ?_; simp only [N]
      refine wxl_tk 5 rfl (xy_run rfl (fun w H => rp_indexAddr_arr rfl Tryz.underlying34 sz5 rfl (((p.threads.l.getD v72 default).l.getD ((cb2.getD (v72 * 9) 0).toNat) default).loc).toNat rfl (by omega) (36 + (((p.threads.l.getD v72 default).l.getD ((cb2.getD (v72 * 9) 0).toNat) default).loc).toNat) (by omega))) ?_; simp only [N]
      refine wxl_tk 6 rfl (xy_run rfl (fun w H => rp_load1A H 1 rfl rfl rfl Tryz.underlying5 rfl (36 + (((p.threads.l.getD v72 default).l.getD ((cb2.getD (v72 * 9) 0).toNat) default).loc).toNat) rfl)) ?_; simp only [N]
      refine wxl_tk 7 rfl (xy_run rfl (fun w H => rp_indexAddr_arr rfl Tryz.underlying34 sz5 rfl (((p.threads.l.getD v72 default).l.getD ((cb2.getD (v72 * 9) 0).toNat) default).loc).toNat rfl (by omega) ((((p.threads.l.getD v72 default).l.getD ((cb2.getD (v72 * 9) 0).toNat) default).loc).toNat) (by omega))) ?_; simp only [N]
      refine wpX_tail (n := 0) _ rfl rfl (by kernel_rfl) ?_
      clear H; intro w38 H; simp only [List.cons_append, List.nil_append] at H
      refine wl_store1e H 3 rfl rfl rfl rfl ((bMoveF p a9 cb2 v80).1.getD (36 + (((p.threads.l.getD v72 default).l.getD ((cb2.getD (v72 * 9) 0).toNat) default).loc).toNat) 0) rfl sz5 ((((p.threads.l.getD v72 default).l.getD ((cb2.getD (v72 * 9) 0).toNat) default).loc).toNat) rfl (by first | omega | simp [-List.reduceReplicate] <;> omega | simp [*, -List.reduceReplicate] <;> omega) ?_
      clear H; intro w39 H; simp only [M] at H
      simp only [N]
      refine wpList_nil ?_
      refine wp_region_lit ?_; refine wr (rp_loadWA H 1 rfl rfl rfl Tryz.underlying41 rfl sz41 rfl) ?_; simp only [N]
      refine wl_storeA H 7 rfl rfl rfl rfl (bMoveF p a9 cb2 v80).1 rfl sz41 ?_
      clear H; intro w40 H; simp only [M] at H
      simp only [N]
      refine wpList_nil ?_
      refine wp_region_lit ?_; refine wr (rp_int_add rfl (c77 : Int) (1 : Int) rfl rfl (by omega)) ?_; simp only [N]
      refine wmv (iv ((c77 : Int) + (1 : Int))) ?_; simp only [N]
      refine wpList_nil ?_
      replace H := H.dropNew 0 rfl (foot_blk (H.newrow 0 rfl _ rfl)); simp only [m5, m6] at H
      replace H := H.dropNew 0 rfl (foot_blk hnb10); simp only [m5, m6] at H
      replace H := H.dropNew 2 rfl (foot_blk hnb6); simp only [m5, m6] at H
      replace H := H.order [2, 1, 3, 0, 4, 5, 6] rfl (L' := [.row gvrow1 36 2 grow1.length (grow1.flatMap Sto.cells), .blk b5 (.cells (enc (gb5.set ((((p.threads.l.getD v72 default).l.getD ((cb2.getD (v72 * 9) 0).toNat) default).loc).toNat) ((bMoveF p a9 cb2 v80).1.getD (36 + (((p.threads.l.getD v72 default).l.getD ((cb2.getD (v72 * 9) 0).toNat) default).loc).toNat) 0))).toArray 34 (0, 0)), .blk b4 (.cells (encB gb4).toArray 69 (0, 0)), .blk b3 (.cells (encB gb3).toArray 69 (0, 0)), .blk b2 (.cells (enc (bMoveF p a9 cb2 v80).1).toArray 41 (0, 0)), .blk bd10 (.cells (enc (bPlayF p a9 (picks.l.take (min picks.l.length 100))).1).toArray 64 (0, 0)), .blk b1 (.cells (p.cells).toArray 29 (0, 0))]) rfl
      show ∃ n', n' < _ ∧ _
      refine ⟨_, ?_, (c77 + 1), grow1, (gb5.set ((((p.threads.l.getD v72 default).l.getD ((cb2.getD (v72 * 9) 0).toNat) default).loc).toNat) ((bMoveF p a9 cb2 v80).1.getD (36 + (((p.threads.l.getD v72 default).l.getD ((cb2.getD (v72 * 9) 0).toNat) default).loc).toNat) 0)), gb4, gb3, (bMoveF p a9 cb2 v80).1, gvrow1, (by kernel_rfl), H, (by first | omega | simp [-List.reduceReplicate] <;> omega | simp [*, -List.reduceReplicate] <;> omega), (by first | omega | simp [-List.reduceReplicate] <;> omega | simp [*, -List.reduceReplicate] <;> omega), (by first | omega | simp [-List.reduceReplicate] <;> omega | simp [*, -List.reduceReplicate] <;> omega), (by first | omega | simp [-List.reduceReplicate] <;> omega | simp [*, -List.reduceReplicate] <;> omega), (by exact runAt_step hic4 (by omega) (v := bMoveF p a9 cb2 v80) (by rw [hv80])), (by assumption), (by omega), (by first | omega | (simp only [List.length_append, List.length_cons, List.length_nil]; omega)), (hFg.trans ((bf hc10).trans ((bt hc11).trans (bt hc12)))).trans (congrFun hrc _), rfl⟩
      omega
     · --F 12
      refine wp_skip ?_
      refine wp_region_lit ?_; refine wr (rp_loadWA H 1 rfl rfl rfl Tryz.underlying41 rfl sz41 rfl) ?_; simp only [N]
      refine wl_storeA H 7 rfl rfl rfl rfl (bMoveF p a9 cb2 v80).1 rfl sz41 ?_
      clear H; intro w41 H; simp only [M] at H
      simp only [N]
      refine wpList_nil ?_
      refine wp_region_lit ?_; refine wr (rp_int_add rfl (c77 : Int) (1 : Int) rfl rfl (by omega)) ?_; simp only [N]
      refine wmv (iv ((c77 : Int) + (1 : Int))) ?_; simp only [N]
      refine wpList_nil ?_
      replace H := H.dropNew 0 rfl (foot_blk (H.newrow 0 rfl _ rfl)); simp only [m5, m6] at H
      replace H := H.dropNew 0 rfl (foot_blk hnb10); simp only [m5, m6] at H
      replace H := H.dropNew 2 rfl (foot_blk hnb6); simp only [m5, m6] at H
      replace H := H.order [2, 1, 3, 0, 4, 5, 6] rfl (L' := [.row gvrow1 36 2 grow1.length (grow1.flatMap Sto.cells), .blk b5 (.cells (enc gb5).toArray 34 (0, 0)), .blk b4 (.cells (encB gb4).toArray 69 (0, 0)), .blk b3 (.cells (encB gb3).toArray 69 (0, 0)), .blk b2 (.cells (enc (bMoveF p a9 cb2 v80).1).toArray 41 (0, 0)), .blk bd10 (.cells (enc (bPlayF p a9 (picks.l.take (min picks.l.length 100))).1).toArray 64 (0, 0)), .blk b1 (.cells (p.cells).toArray 29 (0, 0))]) rfl
      show ∃ n', n' < _ ∧ _
      refine ⟨_, ?_, (c77 + 1), grow1, gb5, gb4, gb3, (bMoveF p a9 cb2 v80).1, gvrow1, (by kernel_rfl), H, (by first | omega | simp [-List.reduceReplicate] <;> omega | simp [*, -List.reduceReplicate] <;> omega), (by first | omega | simp [-List.reduceReplicate] <;> omega | simp [*, -List.reduceReplicate] <;> omega), (by first | omega | simp [-List.reduceReplicate] <;> omega | simp [*, -List.reduceReplicate] <;> omega), (by first | omega | simp [-List.reduceReplicate] <;> omega | simp [*, -List.reduceReplicate] <;> omega), (by exact runAt_step hic4 (by omega) (v := bMoveF p a9 cb2 v80) (by rw [hv80])), (by assumption), (by omega), (by first | omega | (simp only [List.length_append, List.length_cons, List.length_nil]; omega)), (hFg.trans ((bf hc10).trans ((bt hc11).trans (bf hc12)))).trans (congrFun hrc _), rfl⟩
      omega
    · --F 11
     refine wp_skip ?_
     refine wp_region_lit ?_; refine wr (rp_loadWA H 0 rfl rfl rfl Tryz.underlying41 rfl sz41 rfl) ?_; simp only [N]
     refine wl_storeA H 6 rfl rfl rfl rfl (bMoveF p a9 cb2 v80).1 rfl sz41 ?_
     clear H; intro w42 H; simp only [M] at H
     simp only [N]
     refine wpList_nil ?_
     refine wp_region_lit ?_; refine wr (rp_int_add rfl (c77 : Int) (1 : Int) rfl rfl (by omega)) ?_; simp only [N]
     refine wmv (iv ((c77 : Int) + (1 : Int))) ?_; simp only [N]
     refine wpList_nil ?_
     replace H := H.dropNew 0 rfl (foot_blk hnb10); simp only [m5, m6] at H
     replace H := H.dropNew 2 rfl (foot_blk hnb6); simp only [m5, m6] at H
     replace H := H.order [2, 1, 3, 0, 4, 5, 6] rfl (L' := [.row gvrow1 36 2 grow1.length (grow1.flatMap Sto.cells), .blk b5 (.cells (enc gb5).toArray 34 (0, 0)), .blk b4 (.cells (encB gb4).toArray 69 (0, 0)), .blk b3 (.cells (encB gb3).toArray 69 (0, 0)), .blk b2 (.cells (enc (bMoveF p a9 cb2 v80).1).toArray 41 (0, 0)), .blk bd10 (.cells (enc (bPlayF p a9 (picks.l.take (min picks.l.length 100))).1).toArray 64 (0, 0)), .blk b1 (.cells (p.cells).toArray 29 (0, 0))]) rfl
     show ∃ n', n' < _ ∧ _
     refine ⟨_, ?_, (c77 + 1), grow1, gb5, gb4, gb3, (bMoveF p a9 cb2 v80).1, gvrow1, (by kernel_rfl), H, (by first | omega | simp [-List.reduceReplicate] <;> omega | simp [*, -List.reduceReplicate] <;> omega), (by first | omega | simp [-List.reduceReplicate] <;> omega | simp [*, -List.reduceReplicate] <;> omega), (by first | omega | simp [-List.reduceReplicate] <;> omega | simp [*, -List.reduceReplicate] <;> omega), (by first | omega | simp [-List.reduceReplicate] <;> omega | simp [*, -List.reduceReplicate] <;> omega), (by exact runAt_step hic4 (by omega) (v := bMoveF p a9 cb2 v80) (by rw [hv80])), (by assumption), (by omega), (by first | omega | (simp only [List.length_append, List.length_cons, List.length_nil]; omega)), (hFg.trans ((bf hc10).trans (bf hc11))).trans (congrFun hrc _), rfl⟩
     omega
  · --F 3
   have hc3N85 : (((bPlayF p a9 (picks.l.take (min picks.l.length 100))).2.1.length : Nat) : Int) ≤ (c77 : Int) := (by simpa using hc3)
   have hFc2 := hFc.trans (loopL_end (show (bPlayF p a9 (picks.l.take (min picks.l.length 100))).2.1.length ≤ c77 by omega))
   refine wp_exit ?_
   refine wp_seq ?_; refine wsr ?_
   refine wr (rp_fieldAddr rfl Tryz.underlying29 rfl 1 rfl sz22 rfl 1 rfl) ?_; simp only [N]
   refine wr (rp_load1 H 6 rfl rfl rfl Tryz.underlying22 rfl (v := p.locs.val) rfl) ?_; simp only [N]
   refine wr (rp_len_sl (s := p.locs) Tryz.underlying22 rfl) ?_; simp only [N]
   refine wmv (iv (0 : Int)) ?_; simp only [N]
   refine wpList_nil ?_
   refine wp_block ?_
   refine wp_loopX (fun m' a' w' => ∃ (i278 : Nat), a' = ⟨#[(ua 0), .bool pso, picks.val, bv which, (tq a' 4), uU, uU, uU, (tq a' 8), bv a9, .pointer (some ⟨bd10, 0, none⟩), (uc 11), (uc 12), (tq a' 13), (uc 14), (tq a' 15), cvrow1, .pointer (some ⟨b3, 0, none⟩), .pointer (some ⟨b4, 0, none⟩), .pointer (some ⟨b5, 0, none⟩), uU, (uc 21), (uc 22), (uc 23), (uc 24), (uc 25), (uc 26), (uc 27), (uc 28), (uc 29), (uc 30), (tq a' 31), (ua 32), (ub 33), (ub 34), (ub 35), (ub 36), (ub 37), (ub 38), (ub 39), (ub 40), (ub 41), (ub 42), (ub 43), (ub 44), (uc 45), (uc 46), (uc 47), (uc 48), (uc 49), (uc 50), (uc 51), (uc 52), (uc 53), (uc 54), (uc 55), uU, uU, uU, uU, uU, uU, uU, uU, uU, uU, uU, bv which, (uc 68), (uc 69), (uc 70), (uc 71), (uc 72), (uc 73), (uc 74), (tq a' 75), (tq a' 76), (tq a' 77), (tq a' 78), (uc 79), (uc 80), (uc 81), (uc 82), (uc 83), (uc 84), (uc 85), (uc 86), (uc 87), (uc 88), (uc 89), (uc 90), (uc 91), (uc 92), (uc 93), (uc 94), (uc 95), (uc 96), (uc 97), (uc 98), (uc 99), (uc 100), (uc 101), (uc 102), (uc 103), (uc 104), (uc 105), (uc 106), (uc 107), (uc 108), (uc 109), (uc 110), (uc 111), (uc 112), (uc 113), (uc 114), (uc 115), (uc 116), (uc 117), (uc 118), (uc 119), (uc 120), (uc 121), (uc 122), (uc 123), (uc 124), (uc 125), (uc 126), (uc 127), (uc 128), (uc 129), (uc 130), (uc 131), (uc 132), (uc 133), (uc 134), (uc 135), (uc 136), (uc 137), (uc 138), (uc 139), (uc 140), (uc 141), (uc 142), (uc 143), (uc 144), (uc 145), (uc 146), (uc 147), (uc 148), (uc 149), (uc 150), (uc 151), (uc 152), (uc 153), (uc 154), (uc 155), (uc 156), (uc 157), (uc 158), (uc 159), (uc 160), (uc 161), (uc 162), (uc 163), (uc 164), (uc 165), (uc 166), (uc 167), (uc 168), (uc 169), (uc 170), (uc 171), (uc 172), (uc 173), (uc 174), (uc 175), (uc 176), (uc 177), (uc 178), (uc 179), (uc 180), (uc 181), (uc 182), (uc 183), (uc 184), (uc 185), (uc 186), (uc 187), (uc 188), (uc 189), (uc 190), (uc 191), (uc 192), (uc 193), (uc 194), (uc 195), (uc 196), (uc 197), (uc 198), (uc 199), (uc 200), (uc 201), (uc 202), (uc 203), (uc 204), (uc 205), (uc 206), (uc 207), (uc 208), (uc 209), (uc 210), (uc 211), (uc 212), (uc 213), (uc 214), (uc 215), (uc 216), (uc 217), (uc 218), (uc 219), (uc 220), (uc 221), (uc 222), (uc 223), (uc 224), (uc 225), (uc 226), (uc 227), (uc 228), (uc 229), (uc 230), (uc 231), (uc 232), (uc 233), (uc 234), (uc 235), (uc 236), (uc 237), (uc 238), (uc 239), (uc 240), (uc 241), (uc 242), (uc 243), (uc 244), (uc 245), (uc 246), (uc 247), (uc 248), (uc 249), (uc 250), (uc 251), (uc 252), (uc 253), (uc 254), (uc 255), (uc 256), (uc 257), (uc 258), (uc 259), (uc 260), (uc 261), (uc 262), (uc 263), (uc 264), (uc 265), (uc 266), (uc 267), (uc 268), (uc 269), (uc 270), (uc 271), (uc 272), (uc 273), (uc 274), (tq a' 275), (tq a' 276), iv (p.locs.l.length : Int), iv (i278 : Int), (tq a' 279), (tq a' 280), (tq a' 281), (tq a' 282), (tq a' 283), (tq a' 284), (tq a' 285), (tq a' 286), (tq a' 287), (tq a' 288), (tq a' 289), (tq a' 290), (tq a' 291), (tq a' 292), (tq a' 293), (tq a' 294), (tq a' 295), (tq a' 296), (tq a' 297), (tq a' 298), (tq a' 299), (tq a' 300), uU, uU, uU, uU, uU, uU], []⟩ ∧ Own w [] [SlIn 3 Pass.cells (⟨xd41_.1, xd41_.2, (bPlayF p a9 (picks.l.take (min picks.l.length 100))).2.1⟩ : Sl Pass), IsProg p, SlIn 1 eByte picks, Glob] [.row cvrow1 36 2 crow1.length (crow1.flatMap Sto.cells), .blk b5 (.cells (enc cb5).toArray 34 (0, 0)), .blk b4 (.cells (encB cb4).toArray 69 (0, 0)), .blk b3 (.cells (encB cb3).toArray 69 (0, 0)), .blk b2 (.cells (enc cb2).toArray 41 (0, 0)), .blk bd10 (.cells (enc (bPlayF p a9 (picks.l.take (min picks.l.length 100))).1).toArray 64 (0, 0)), .blk b1 (.cells (p.cells).toArray 29 (0, 0))] w' ∧ (i278 ≤ p.locs.l.length) ∧ (orderF p pso picks.l which) = loopL (orderF_i p picks.l a9 cb5 cb4 cb3) (orderF_ik crow1) (p.locs.l.drop i278) i278 ∧ m' = p.locs.l.length - i278) _ ⟨0, (by kernel_rfl), H, (by omega), hFc2, rfl⟩ ?_
   clear H
   rintro _ a_ w43 ⟨i278, ha_, H, hii0, hFi, rfl⟩
   obtain ⟨ui, hu_⟩ : ∃ u : Nat → Value, ∀ n, tq a_ n = u n := ⟨_, fun _ => rfl⟩
   try simp only [hu_] at ha_
   clear hu_; subst ha_
   refine wsr ?_
   refine wr (rp_int_lss rfl (i278 : Int) (p.locs.l.length : Int) rfl rfl) ?_; simp only [N]
   refine wpList_nil ?_
   refine wp_seq ?_; refine wp_cond_split rfl (fun hc13 => ?_) (fun hc13 => ?_)
   · --T 13
    have hc13N86 : (i278 : Int) < (p.locs.l.length : Int) := (by simpa using hc13)
    obtain ⟨ri, hri⟩ : ∃ r, r = loopL (orderF_i p picks.l a9 cb5 cb4 cb3) (orderF_ik crow1) (p.locs.l.drop (i278 + 1)) := ⟨_, rfl⟩
    have hFi2 := hFi.trans (loopL_step (show i278 < p.locs.l.length by omega))
    rw [← hri] at hFi2
    refine wp_skip ?_
    refine wp_seq ?_; refine wp_block ?_
    refine wsr ?_
    refine wmv (iv (i278 : Int)) ?_; simp only [N]
    refine wasg (iv (i278 : Int)) ?_; simp only [N]
    refine wpList_nil ?_
    refine wp_seq ?_; refine wp_region_own H (by kernel_rfl) (by kernel_rfl) ?_
    refine wq_run rfl (fun w H => rp_move rfl (v := iv (i278 : Int)) rfl) ?_; simp only [N]
    refine wq_run rfl (fun w H => rp_indexAddr_arr rfl Tryz.underlying69 sz4 rfl i278 rfl (by omega) i278 (by omega)) ?_; simp only [N]
    refine wq_run rfl (fun w H => rp_load1b H 3 rfl rfl rfl Tryz.underlying4 rfl i278 rfl (by first | omega | simp [-List.reduceReplicate] <;> omega | simp [*, -List.reduceReplicate] <;> omega)) ?_; simp only [N]
    refine wq_run rfl (fun w H => rp_move rfl (v := .bool (cb3.getD i278 false)) rfl) ?_; simp only [N]
    refine wq_g (wn_t rfl rfl) (v := iv (i278 : Int)) (fun hg w H => rp_move rfl (v := iv (i278 : Int)) rfl) ?_; simp only [N]
    refine wq_g (wn_t rfl rfl) (v := .pointer (some ⟨b4, i278, none⟩)) (fun hg w H => by simp only [gv_t hg]; exact rp_indexAddr_arr rfl Tryz.underlying69 sz4 rfl i278 rfl (by omega) i278 (by omega)) ?_; simp only [N]
    refine wq_g (wn_t rfl rfl) (v := .bool (cb4.getD i278 false)) (fun hg w H => by simp only [gv_t hg]; exact rp_load1b H 2 rfl rfl rfl Tryz.underlying4 rfl i278 rfl (by first | omega | simp [-List.reduceReplicate] <;> omega | simp [*, -List.reduceReplicate] <;> omega)) ?_; simp only [N]
    refine wq_g (wn_t rfl rfl) (v := .bool (!(cb4.getD i278 false))) (fun hg w H => by simp only [gv_t hg]; exact rp_not rfl (cb4.getD i278 false) rfl) ?_; simp only [N]
    refine wq_run rfl (fun w H => rp_pickA rfl (p := (cb3.getD i278 false)) (q := (!(cb4.getD i278 false))) rfl rfl rfl) ?_; simp only [N]
    refine wq_run rfl (fun w H => rp_move rfl (v := .bool ((cb3.getD i278 false) && (!(cb4.getD i278 false)))) rfl) ?_; simp only [N]
    refine wq_g (wn_t rfl rfl) (v := iv (i278 : Int)) (fun hg w H => rp_move rfl (v := iv (i278 : Int)) rfl) ?_; simp only [N]
    refine wq_g (wn_t rfl rfl) (v := .pointer (some ⟨bd10, 32, none⟩)) (fun hg w H => rp_fieldAddr rfl Tryz.underlying64 rfl 32 rfl sz34 rfl 32 rfl) ?_; simp only [N]
    refine wq_g (wn_t rfl rfl) (v := .pointer (some ⟨bd10, 32 + i278, none⟩)) (fun hg w H => by simp only [gv_t hg]; exact rp_indexAddr_arr rfl Tryz.underlying34 sz5 rfl i278 rfl (by omega) (32 + i278) (by omega)) ?_; simp only [N]
    refine wq_g (wn_t rfl rfl) (v := bv ((bPlayF p a9 (picks.l.take (min picks.l.length 100))).1.getD (32 + i278) 0)) (fun hg w H => by simp only [gv_t hg]; exact rp_load1A H 5 rfl rfl rfl Tryz.underlying5 rfl (32 + i278) rfl) ?_; simp only [N]
    refine wq_g (wn_t rfl rfl) (v := iv (i278 : Int)) (fun hg w H => rp_move rfl (v := iv (i278 : Int)) rfl) ?_; simp only [N]
    refine wq_g (wn_t rfl rfl) (v := .pointer (some ⟨b5, i278, none⟩)) (fun hg w H => by simp only [gv_t hg]; exact rp_indexAddr_arr rfl Tryz.underlying34 sz5 rfl i278 rfl (by omega) i278 (by omega)) ?_; simp only [N]
    refine wq_g (wn_t rfl rfl) (v := bv (cb5.getD i278 0)) (fun hg w H => by simp only [gv_t hg]; exact rp_load1A H 1 rfl rfl rfl Tryz.underlying5 rfl i278 rfl) ?_; simp only [N]
    refine wq_g (wn_t rfl rfl) (v := .bool (((bPlayF p a9 (picks.l.take (min picks.l.length 100))).1.getD (32 + i278) 0) != (cb5.getD i278 0))) (fun hg w H => by simp only [gv_t hg]; exact rp_u8_neq rfl ((bPlayF p a9 (picks.l.take (min picks.l.length 100))).1.getD (32 + i278) 0) (cb5.getD i278 0) rfl rfl) ?_; simp only [N]
    refine wq_run rfl (fun w H => rp_pickA rfl (p := ((cb3.getD i278 false) && (!(cb4.getD i278 false)))) (q := (((bPlayF p a9 (picks.l.take (min picks.l.length 100))).1.getD (32 + i278) 0) != (cb5.getD i278 0))) rfl rfl rfl) ?_; simp only [N]
    refine wq_nil ?_
    clear H; intro w44 H
    refine wp_cond_split rfl (fun hc14 => ?_) (fun hc14 => ?_)
    · --T 14
     have hc14N87 : ((bPlayF p a9 (picks.l.take (min picks.l.length 100))).1.getD (32 + i278) 0).toNat ≠ (cb5.getD i278 0).toNat := u8_ne2 (andr hc14)
     refine wsr ?_
     refine wasg (.bool false) ?_; simp only [N]
     refine wpList_nil ?_
     refine wp_ret ?_
     try simp only [Exit.inBlock, Exit.then, cutP]
     refine bodyPost_ret (results1 rfl (rv_tmp rfl)) rfl ?_
     have hF : (orderF p pso picks.l which) = false := hFi2.trans (bt hc14)
     rw [hF]
     exact ⟨rfl, H.ext⟩
    · --F 14
     refine wp_skip ?_
     refine wp_region_lit ?_; refine wr (rp_int_add rfl (i278 : Int) (1 : Int) rfl rfl (by omega)) ?_; simp only [N]
     refine wmv (iv ((i278 : Int) + (1 : Int))) ?_; simp only [N]
     refine wpList_nil ?_
     show ∃ n', n' < _ ∧ _
     refine ⟨_, ?_, (i278 + 1), (by kernel_rfl), H, (by omega), (hFi2.trans (bf hc14)).trans (congrFun hri _), rfl⟩
     omega
   · --F 13
    have hc13N88 : (p.locs.l.length : Int) ≤ (i278 : Int) := (by simpa using hc13)
    have hFi2 := hFi.trans (loopL_end (show p.locs.l.length ≤ i278 by omega))
    refine wp_exit ?_
    refine wsr ?_
    refine wmv cvrow1 ?_; simp only [N]
    refine wr (rp_len_row H 0 rfl Tryz.underlying68 rfl) ?_; simp only [N]
    refine wr (rp_int_eql rfl (crow1.length : Int) (0 : Int) rfl rfl) ?_; simp only [N]
    refine wmv (.bool ((crow1.length : Int) == (0 : Int))) ?_; simp only [N]
    refine wl_gE H (wn_t rfl rfl) (fun hg => rc_go Tryz.func12 (by kernel_rfl) rfl) (v := .bool true) (fun hg => by have x89 : (crow1.length : Int) = (0 : Int) := (by simpa using hg); exact (awakeB_spec' _ (H.ro_at 3 rfl))) ?_
    clear H; intro w45 H
    simp only [N]
    refine wr (rp_pickA rfl (p := ((crow1.length : Int) == (0 : Int))) (q := true) rfl rfl rfl) ?_; simp only [N]
    refine wasg (.bool (((crow1.length : Int) == (0 : Int)) && true)) ?_; simp only [N]
    refine wpList_nil ?_
    refine wp_ret ?_
    try simp only [Exit.inBlock, Exit.then, cutP]
    refine bodyPost_ret (results1 rfl (rv_tmp rfl)) rfl ?_
    have hF : (orderF p pso picks.l which) = (((crow1.length : Int) == (0 : Int)) && true) := hFi2
    rw [hF]
    exact ⟨rfl, H.ext⟩

end Go.Proofs.YtimonjemjhecoaaGreatDoor
