/- Walks, printed by a program of this repository (wip/tool). -/
import Derived.Test.YtpnaooajmdildaaGreatDoorBe
import Derived.Test.YtpnaooajmdildaaGreatDoorSL
import Derived.Test.YtpnaooajmdildaaGreatDoorSP
namespace Go.Proofs.YtpnaooajmdildaaGreatDoor
open Go.RowKit
open Go
attribute [local irreducible] wpList wpQuiet wpX Code.wp
set_option maxHeartbeats 1000000
set_option maxRecDepth 100000
set_option linter.unusedSimpArgs false
set_option linter.unusedVariables false

def playsL_b (xrb : (Sl Ins)) (rb : Nat → Bool) : Nat → Bool := fun s_ => match s_ with | b10 => rb (b10 + xrb.l.length)
def playsL_d (p : Prog) (picks : List UInt8) (c84 : Nat) (xrd : Int) (rd : (Nat × (List UInt8)) → Bool) : (Nat × (List UInt8)) → Bool := fun s_ => match s_ with | (d93, drow1) => bif (xrd == ((playF p (picks.take (min picks.length 60))).2.1.getD (c84) default)) then (rd ((d93 + 1), (drow1 ++ [(UInt8.ofNat (((d93 : Nat) : Int) % 256).toNat)]))) else (rd ((d93 + 1), drow1))
def playsL_v111 (c84 : Nat) (drow1 : List UInt8) (rc : (Nat × (List UInt8) × (List UInt8)) → Bool) (v111 : (List UInt8) × Int) : Bool :=
  bif (v111.2 != (0 : Int)) then false else (rc ((c84 + 1), drow1, v111.1))
def playsL_dk (p : Prog) (picks : List UInt8) (c84 : Nat) (cb2 : List UInt8) (rc : (Nat × (List UInt8) × (List UInt8)) → Bool) : (Nat × (List UInt8)) → Bool := fun s_ => match s_ with | (d93, drow1) => playsL_v111 c84 drow1 rc (moveF p cb2 ((playF p (picks.take (min picks.length 60))).2.1.getD (c84) default))
def playsL_c (p : Prog) (picks : List UInt8) (xrc : Int) (rc : (Nat × (List UInt8) × (List UInt8)) → Bool) : (Nat × (List UInt8) × (List UInt8)) → Bool := fun s_ => match s_ with | (c84, crow1, cb2) => loopL (playsL_d p picks c84) (playsL_dk p picks c84 cb2 rc) (movesF p cb2) (0, crow1)
def playsL_ck (p : Prog) (picks : List UInt8) (b10 : Nat) : (Nat × (List UInt8) × (List UInt8)) → Bool := fun s_ => match s_ with | (c84, crow1, cb2) => (((((((decide ((((playF p (picks.take (min picks.length 60))).2.1.length : Nat) : Int) ≤ ((b10 : Nat) : Int))) && (((crow1.length : Nat) : Int) == (((playF p (picks.take (min picks.length 60))).2.1.length : Nat) : Int))) && (overF p cb2)) && (decide ((finalF cb2) = (playF p (picks.take (min picks.length 60))).1))) && (decide ((playF p crow1).1 = (playF p (picks.take (min picks.length 60))).1))) && (intsF ((playF p crow1).2.1) ((playF p (picks.take (min picks.length 60))).2.1))) && true)
def playsL_bk (p : Prog) (picks : List UInt8) : Nat → Bool := fun s_ => match s_ with | b10 => loopL (playsL_c p picks) (playsL_ck p picks b10) ((playF p (picks.take (min picks.length 60))).2.1) (0, ([] : List UInt8), (startF p).1)
def playsL_a (p : Prog) (picks : List UInt8) : Bool :=
  bif (((playF p (picks.take (min picks.length 60))).2.2 != (startF p).2) || ((playF p (picks.take (min picks.length 60))).2.2 != (0 : Int))) then ((((((((playF p (picks.take (min picks.length 60))).2.2 == (startF p).2) && ((playF p (picks.take (min picks.length 60))).2.2 == (2 : Int))) && ((rightF p) != (0 : Int))) && ((((playF p (picks.take (min picks.length 60))).2.1.length : Nat) : Int) == (0 : Int))) && (decide ((playF p (picks.take (min picks.length 60))).1 = (List.replicate 38 (0 : UInt8))))) && true)) else (loopL playsL_b (playsL_bk p picks) p.threads.l 0)
def playsL (p : Prog) (picks : List UInt8) : Bool :=
  playsL_a p picks


theorem playsL_spec (p : Prog) (picks : Sl UInt8) (w : World) (hp : (IsProg p) w) (hpicks : (SlIn 1 eByte picks) w) (hg_ : (Glob) w) :
    Calls Tryz.prog 7 #[.agg p.cells.toArray, picks.val] w fun e w' => e = .returned (.bool ((playsL p picks.l))) ∧ Ext w w' := by
 have H := Own.start_ro w [IsProg p, SlIn 1 eByte picks, Glob] (List.forall_mem_cons.2 ⟨fun w' hw => hp.keep hw, List.forall_mem_cons.2 ⟨fun w' hw => hpicks.keep hw, List.forall_mem_cons.2 ⟨fun w' hw => hg_.keep hw, fun _ h => by cases h⟩⟩⟩)
 have hcp1 := hp.locs.2.2
 have hcp2 := hp.init.2.2
 have hcp3 := hp.threads.2.2
 have hcpicks := hpicks.2.2
 go_enter Tryz.func7, Tryz.ntmps7
 refine wp_seq ?_
 refine wp_region_lit ?_
 refine wl_box H rfl rfl (v := .agg (p.cells).toArray) rfl ?_
 clear H; intro b1 w1 hnb1 H; dsimp only [Value.cells] at H
 simp only [N]
 refine wl_run rfl (rp_assign rfl (v := .bool false) rfl) ?_
 simp only [N]
 refine wpList_nil ?_
 refine wp_seq ?_
 refine wp_cutX (fun a' w' => ∃  (bd5 : Nat) (xd29_ : (Option Addr × Nat)), a' = ⟨#[(tq a' 0), picks.val, .pointer (some ⟨b1, 0, none⟩), undef, (tq a' 4), .pointer (some ⟨bd5, 0, none⟩), (⟨xd29_.1, xd29_.2, (playF p (picks.l.take (min picks.l.length 60))).2.1⟩ : Sl Int).val, iv (playF p (picks.l.take (min picks.l.length 60))).2.2, undef, undef, undef, undef, undef, undef, undef, undef, undef, undef, undef, undef, undef, undef, (tq a' 22), (tq a' 23), (tq a' 24), (tq a' 25), (tq a' 26), (tq a' 27), (tq a' 28), (tq a' 29), (tq a' 30), (tq a' 31), (tq a' 32), undef, undef, undef, undef, undef, undef, undef, undef, undef, undef, undef, undef, undef, undef, undef, undef, undef, undef, undef, undef, undef, undef, undef, undef, undef, undef, undef, undef, undef, undef, undef, undef, undef, undef, undef, undef, undef, undef, undef, undef, undef, undef, undef, undef, undef, undef, undef, undef, undef, undef, undef, undef, undef, undef, undef, undef, undef, undef, undef, undef, undef, undef, undef, undef, undef, undef, undef, undef, undef, undef, undef, undef, undef, undef, undef, undef, undef, undef, undef, undef, undef, undef, undef, undef, undef, undef, undef, undef, undef, undef, undef, undef, undef, undef, undef, undef, undef, undef, undef, undef, undef, undef, undef, undef, undef, undef, undef, undef, undef, undef, undef, undef, undef, undef, undef, undef, undef, undef, undef, undef, undef, undef, undef, undef, undef, undef], []⟩ ∧ Own w [] [SlIn 1 eInt (⟨xd29_.1, xd29_.2, (playF p (picks.l.take (min picks.l.length 60))).2.1⟩ : Sl Int), IsProg p, SlIn 1 eByte picks, Glob] [.blk bd5 (.cells (enc (playF p (picks.l.take (min picks.l.length 60))).1).toArray 65 (0, 0)), .blk b1 (.cells (p.cells).toArray 29 (0, 0))] w' ∧ w.heap.size ≤ bd5 ∧ (playsL p picks.l) = playsL_a p picks.l) ?_ ?_
 ·
  refine wp_region_mix 15 H (by kernel_rfl) ?_
  refine wxl_take 0 rfl rfl (by kernel_rfl) (by kernel_rfl) (by kernel_rfl) (by kernel_rfl) (by kernel_rfl) (xy_run rfl (fun w H => rp_loadN H 0 rfl rfl rfl Tryz.underlying29 rfl sz29 (Nat.le_of_ble_eq_true rfl) (cs' := p.cells) rfl)) ?_
  simp only [N]
  refine wxl_take 1 rfl rfl (by kernel_rfl) (by kernel_rfl) (by kernel_rfl) (by kernel_rfl) (by kernel_rfl) (xy_run rfl (fun w H => rp_move rfl (v := picks.val) rfl)) ?_
  simp only [N]
  refine wxl_take 2 rfl rfl (by kernel_rfl) (by kernel_rfl) (by kernel_rfl) (by kernel_rfl) (by kernel_rfl) (xy_run rfl (fun w H => rp_move rfl (v := picks.val) rfl)) ?_
  simp only [N]
  refine wxl_take 3 rfl rfl (by kernel_rfl) (by kernel_rfl) (by kernel_rfl) (by kernel_rfl) (by kernel_rfl) (xy_run rfl (fun w H => rp_len_sl (s := picks) Tryz.underlying23 rfl)) ?_
  simp only [N]
  refine wxl_take 4 rfl rfl (by kernel_rfl) (by kernel_rfl) (by kernel_rfl) (by kernel_rfl) (by kernel_rfl) (xy_run rfl (fun w H => rp_vconv (rp_min2 rfl ((picks.l.length : Nat) : Int) (60 : Int) rfl rfl) (congrArg (Value.int .i64) (show min ((picks.l.length : Nat) : Int) (60 : Int) = (((min picks.l.length 60) : Nat) : Int) by omega)))) ?_
  simp only [N]
  refine wxl_take 5 rfl rfl (by kernel_rfl) (by kernel_rfl) (by kernel_rfl) (by kernel_rfl) (by kernel_rfl) (xy_run rfl (fun w H => rp_slice_slh (((H.ro_at 1 rfl))) rfl Tryz.underlying23 sz5 rfl (min picks.l.length 60) rfl (by omega))) ?_
  simp only [N]
  refine wxl_each2 6 11 (by kernel_rfl) ?_ ?_
  ·
   refine xs_fresh rfl rfl rfl (rc_go Tryz.func18 (by kernel_rfl) rfl) (fun w H => playF_spec p (⟨picks.ad, picks.cap, picks.l.take (min picks.l.length 60)⟩ : Sl UInt8) _ (H.ro_at 0 rfl) (SlIn.take (((H.ro_at 1 rfl))) (min picks.l.length 60) (by omega)) (H.ro_at 2 rfl)) ?_
   intro xd29_
   simp only [N, M, Value.cells]
   refine wxl_take 7 rfl rfl (by kernel_rfl) (by kernel_rfl) (by kernel_rfl) (by kernel_rfl) (by kernel_rfl) (xy_run rfl (fun w H => rp_move rfl (v := .tuple #[.agg (enc (playF p (picks.l.take (min picks.l.length 60))).1).toArray, (⟨xd29_.1, xd29_.2, (playF p (picks.l.take (min picks.l.length 60))).2.1⟩ : Sl Int).val, iv (playF p (picks.l.take (min picks.l.length 60))).2.2]) rfl)) ?_
   simp only [N]
   refine wxl_take 8 rfl rfl (by kernel_rfl) (by kernel_rfl) (by kernel_rfl) (by kernel_rfl) (by kernel_rfl) (xy_run rfl (fun w H => rp_extract rfl rfl (v := .agg (enc (playF p (picks.l.take (min picks.l.length 60))).1).toArray) rfl)) ?_
   simp only [N]
   refine wxl_take 9 rfl rfl (by kernel_rfl) (by kernel_rfl) (by kernel_rfl) (by kernel_rfl) (by kernel_rfl) (xy_run rfl (fun w H => rp_extract rfl rfl (v := (⟨xd29_.1, xd29_.2, (playF p (picks.l.take (min picks.l.length 60))).2.1⟩ : Sl Int).val) rfl)) ?_
   simp only [N]
   refine wxl_take 10 rfl rfl (by kernel_rfl) (by kernel_rfl) (by kernel_rfl) (by kernel_rfl) (by kernel_rfl) (xy_run rfl (fun w H => rp_extract rfl rfl (v := iv (playF p (picks.l.take (min picks.l.length 60))).2.2) rfl)) ?_
   simp only [N]
   refine wxl_alloc 11 rfl rfl (by kernel_rfl) rfl (xa_alloc rfl zv65) ?_
   intro bd5
   simp only [N, M, Value.cells]
   refine wxl_store 12 0 rfl rfl (by kernel_rfl) rfl rfl (xs_whole rfl rfl (vs := (enc (playF p (picks.l.take (min picks.l.length 60))).1).toArray) rfl (fun v hv => enc_one v (by simpa using hv)) (by first | exact sz65 | (rw [sz65]; congr 1; first | omega | (simp [-List.reduceReplicate]; done) | (simp [-List.reduceReplicate]; omega) | (simp [*, -List.reduceReplicate]; done) | (simp [*, -List.reduceReplicate]; omega))) (by first | rfl | first | omega | (simp [-List.reduceReplicate]; done) | (simp [-List.reduceReplicate]; omega) | (simp [*, -List.reduceReplicate]; done) | (simp [*, -List.reduceReplicate]; omega))) ?_
   simp only [N, M, Value.cells]
   refine wxl_take 13 rfl rfl (by kernel_rfl) (by kernel_rfl) (by kernel_rfl) (by kernel_rfl) (by kernel_rfl) (xy_run rfl (fun w H => rp_assign rfl (v := (⟨xd29_.1, xd29_.2, (playF p (picks.l.take (min picks.l.length 60))).2.1⟩ : Sl Int).val) rfl)) ?_
   simp only [N]
   refine wxl_take 14 rfl rfl (by kernel_rfl) (by kernel_rfl) (by kernel_rfl) (by kernel_rfl) (by kernel_rfl) (xy_run rfl (fun w H => rp_assign rfl (v := iv (playF p (picks.l.take (min picks.l.length 60))).2.2) rfl)) ?_
   simp only [N]
   refine wpX_done (by kernel_rfl) ?_ _
   clear H; intro w2 H; simp only [List.cons_append, List.nil_append] at H
   exact ⟨bd5, xd29_, (by kernel_rfl), H, (H.newrow 0 rfl _ rfl), rfl⟩
  ·
   refine xs_allocR rfl rfl rfl (xa_alloc rfl zv65) ?_
   intro bd5
   simp only [N, M, Value.cells]
   refine wxl_fresh 6 rfl rfl (by kernel_rfl) rfl (rc_go Tryz.func18 (by kernel_rfl) rfl) (fun w H => playF_spec p (⟨picks.ad, picks.cap, picks.l.take (min picks.l.length 60)⟩ : Sl UInt8) _ (H.ro_at 0 rfl) (SlIn.take (((H.ro_at 1 rfl))) (min picks.l.length 60) (by omega)) (H.ro_at 2 rfl)) ?_
   intro xd29_
   simp only [N, M, Value.cells]
   refine wxl_take 7 rfl rfl (by kernel_rfl) (by kernel_rfl) (by kernel_rfl) (by kernel_rfl) (by kernel_rfl) (xy_run rfl (fun w H => rp_move rfl (v := .tuple #[.agg (enc (playF p (picks.l.take (min picks.l.length 60))).1).toArray, (⟨xd29_.1, xd29_.2, (playF p (picks.l.take (min picks.l.length 60))).2.1⟩ : Sl Int).val, iv (playF p (picks.l.take (min picks.l.length 60))).2.2]) rfl)) ?_
   simp only [N]
   refine wxl_take 8 rfl rfl (by kernel_rfl) (by kernel_rfl) (by kernel_rfl) (by kernel_rfl) (by kernel_rfl) (xy_run rfl (fun w H => rp_extract rfl rfl (v := .agg (enc (playF p (picks.l.take (min picks.l.length 60))).1).toArray) rfl)) ?_
   simp only [N]
   refine wxl_take 9 rfl rfl (by kernel_rfl) (by kernel_rfl) (by kernel_rfl) (by kernel_rfl) (by kernel_rfl) (xy_run rfl (fun w H => rp_extract rfl rfl (v := (⟨xd29_.1, xd29_.2, (playF p (picks.l.take (min picks.l.length 60))).2.1⟩ : Sl Int).val) rfl)) ?_
   simp only [N]
   refine wxl_take 10 rfl rfl (by kernel_rfl) (by kernel_rfl) (by kernel_rfl) (by kernel_rfl) (by kernel_rfl) (xy_run rfl (fun w H => rp_extract rfl rfl (v := iv (playF p (picks.l.take (min picks.l.length 60))).2.2) rfl)) ?_
   simp only [N]
   refine wxl_store 12 0 rfl rfl (by kernel_rfl) rfl rfl (xs_whole rfl rfl (vs := (enc (playF p (picks.l.take (min picks.l.length 60))).1).toArray) rfl (fun v hv => enc_one v (by simpa using hv)) (by first | exact sz65 | (rw [sz65]; congr 1; first | omega | (simp [-List.reduceReplicate]; done) | (simp [-List.reduceReplicate]; omega) | (simp [*, -List.reduceReplicate]; done) | (simp [*, -List.reduceReplicate]; omega))) (by first | rfl | first | omega | (simp [-List.reduceReplicate]; done) | (simp [-List.reduceReplicate]; omega) | (simp [*, -List.reduceReplicate]; done) | (simp [*, -List.reduceReplicate]; omega))) ?_
   simp only [N, M, Value.cells]
   refine wxl_take 13 rfl rfl (by kernel_rfl) (by kernel_rfl) (by kernel_rfl) (by kernel_rfl) (by kernel_rfl) (xy_run rfl (fun w H => rp_assign rfl (v := (⟨xd29_.1, xd29_.2, (playF p (picks.l.take (min picks.l.length 60))).2.1⟩ : Sl Int).val) rfl)) ?_
   simp only [N]
   refine wxl_take 14 rfl rfl (by kernel_rfl) (by kernel_rfl) (by kernel_rfl) (by kernel_rfl) (by kernel_rfl) (xy_run rfl (fun w H => rp_assign rfl (v := iv (playF p (picks.l.take (min picks.l.length 60))).2.2) rfl)) ?_
   simp only [N]
   refine wpX_done (by kernel_rfl) ?_ _
   clear H; intro w3 H; simp only [List.cons_append, List.nil_append] at H
   exact ⟨bd5, xd29_, (by kernel_rfl), H, (H.newrow 0 rfl _ rfl), rfl⟩
 clear H
 rintro a_ w4 ⟨bd5, xd29_, ha_, H, hnbd5, hFa⟩
 obtain ⟨ua, hu_⟩ : ∃ ua : Nat → Value, a_ = ⟨#[(ua 0), picks.val, .pointer (some ⟨b1, 0, none⟩), undef, (ua 4), .pointer (some ⟨bd5, 0, none⟩), (⟨xd29_.1, xd29_.2, (playF p (picks.l.take (min picks.l.length 60))).2.1⟩ : Sl Int).val, iv (playF p (picks.l.take (min picks.l.length 60))).2.2, undef, undef, undef, undef, undef, undef, undef, undef, undef, undef, undef, undef, undef, undef, (ua 22), (ua 23), (ua 24), (ua 25), (ua 26), (ua 27), (ua 28), (ua 29), (ua 30), (ua 31), (ua 32), undef, undef, undef, undef, undef, undef, undef, undef, undef, undef, undef, undef, undef, undef, undef, undef, undef, undef, undef, undef, undef, undef, undef, undef, undef, undef, undef, undef, undef, undef, undef, undef, undef, undef, undef, undef, undef, undef, undef, undef, undef, undef, undef, undef, undef, undef, undef, undef, undef, undef, undef, undef, undef, undef, undef, undef, undef, undef, undef, undef, undef, undef, undef, undef, undef, undef, undef, undef, undef, undef, undef, undef, undef, undef, undef, undef, undef, undef, undef, undef, undef, undef, undef, undef, undef, undef, undef, undef, undef, undef, undef, undef, undef, undef, undef, undef, undef, undef, undef, undef, undef, undef, undef, undef, undef, undef, undef, undef, undef, undef, undef, undef, undef, undef, undef, undef, undef, undef, undef, undef, undef, undef, undef, undef, undef, undef], []⟩ := ⟨fun n => tq a_ n, ha_⟩
 clear ha_; subst hu_
 refine wp_seq ?_
 refine wp_region_lit ?_
 refine wl_run rfl (rp_loadN H 1 rfl rfl rfl Tryz.underlying29 rfl sz29 (Nat.le_of_ble_eq_true rfl) (cs' := p.cells) rfl) ?_
 simp only [N]
 refine wl_callE H rfl (rc_go Tryz.func19 (by kernel_rfl) rfl) (startF_spec p _ (H.ro_at 1 rfl) (H.ro_at 3 rfl)) ?_
 clear H; intro w5 H
 simp only [N]
 refine wl_run rfl (rp_move rfl (v := .tuple #[.agg (enc (startF p).1).toArray, iv (startF p).2]) rfl) ?_
 simp only [N]
 refine wl_run rfl (rp_extract rfl rfl (v := .agg (enc (startF p).1).toArray) rfl) ?_
 simp only [N]
 refine wl_run rfl (rp_extract rfl rfl (v := iv (startF p).2) rfl) ?_
 simp only [N]
 refine wl_alloc H rfl rfl zv41 ?_
 clear H; intro b2 w6 hnb2 H; dsimp only [Value.cells] at H
 simp only [N]
 simp only [enc_replicate] at H
 refine wl_storeW H 0 rfl rfl rfl rfl (vs := (enc (startF p).1).toArray) rfl (fun v hv => enc_one v (by simpa using hv)) (by first | (rw [sz41]; congr 1; done) | (rw [sz41]; congr 1; first | omega | (simp [-List.reduceReplicate]; done) | (simp [-List.reduceReplicate]; omega) | (simp [*, -List.reduceReplicate]; done) | (simp [*, -List.reduceReplicate]; omega))) (by first | omega | (simp [-List.reduceReplicate]; done) | (simp [-List.reduceReplicate]; omega) | (simp [*, -List.reduceReplicate]; done) | (simp [*, -List.reduceReplicate]; omega)) ?_
 clear H; intro w7 H; simp only [M] at H
 simp only [N]
 refine wl_run rfl (rp_assign rfl (v := iv (startF p).2) rfl) ?_
 simp only [N]
 refine wpList_nil ?_
 refine wp_seq ?_
 refine wp_seq ?_
 refine wp_region_lit ?_
 refine wl_run rfl (rp_move rfl (v := iv (playF p (picks.l.take (min picks.l.length 60))).2.2) rfl) ?_
 simp only [N]
 refine wl_run rfl (rp_move rfl (v := iv (startF p).2) rfl) ?_
 simp only [N]
 refine wl_run rfl (rp_int_neq rfl (playF p (picks.l.take (min picks.l.length 60))).2.2 (startF p).2 rfl rfl) ?_
 simp only [N]
 refine wl_run rfl (rp_move rfl (v := .bool ((playF p (picks.l.take (min picks.l.length 60))).2.2 != (startF p).2)) rfl) ?_
 simp only [N]
 refine wl_g (wn_f rfl rfl) (v := iv (playF p (picks.l.take (min picks.l.length 60))).2.2) (fun hg => rp_move rfl (v := iv (playF p (picks.l.take (min picks.l.length 60))).2.2) rfl) ?_
 simp only [N]
 refine wl_g (wn_f rfl rfl) (v := .bool ((playF p (picks.l.take (min picks.l.length 60))).2.2 != (0 : Int))) (fun hg => by have x2 : (playF p (picks.l.take (min picks.l.length 60))).2.2 = (startF p).2 := (by simpa using (notT hg)); exact (by simp only [gv_t hg]; exact rp_int_neq rfl (playF p (picks.l.take (min picks.l.length 60))).2.2 (0 : Int) rfl rfl)) ?_
 simp only [N]
 refine wl_run rfl (rp_pickO rfl (p := ((playF p (picks.l.take (min picks.l.length 60))).2.2 != (startF p).2)) (q := ((playF p (picks.l.take (min picks.l.length 60))).2.2 != (0 : Int))) rfl rfl rfl) ?_
 simp only [N]
 refine wpList_nil ?_
 refine wp_cond_split rfl (fun hc1 => ?_) (fun hc1 => ?_)
 · --T 1
  refine wp_seq ?_
  refine wp_region_lit ?_
  refine wl_run rfl (rp_move rfl (v := iv (playF p (picks.l.take (min picks.l.length 60))).2.2) rfl) ?_
  simp only [N]
  refine wl_run rfl (rp_move rfl (v := iv (startF p).2) rfl) ?_
  simp only [N]
  refine wl_run rfl (rp_int_eql rfl (playF p (picks.l.take (min picks.l.length 60))).2.2 (startF p).2 rfl rfl) ?_
  simp only [N]
  refine wl_run rfl (rp_move rfl (v := .bool ((playF p (picks.l.take (min picks.l.length 60))).2.2 == (startF p).2)) rfl) ?_
  simp only [N]
  refine wl_g (wn_t rfl rfl) (v := iv (playF p (picks.l.take (min picks.l.length 60))).2.2) (fun hg => rp_move rfl (v := iv (playF p (picks.l.take (min picks.l.length 60))).2.2) rfl) ?_
  simp only [N]
  refine wl_g (wn_t rfl rfl) (v := .bool ((playF p (picks.l.take (min picks.l.length 60))).2.2 == (2 : Int))) (fun hg => by have x4 : (playF p (picks.l.take (min picks.l.length 60))).2.2 = (startF p).2 := (by simpa using hg); exact (by simp only [gv_t hg]; exact rp_int_eql rfl (playF p (picks.l.take (min picks.l.length 60))).2.2 (2 : Int) rfl rfl)) ?_
  simp only [N]
  refine wl_run rfl (rp_pickA rfl (p := ((playF p (picks.l.take (min picks.l.length 60))).2.2 == (startF p).2)) (q := ((playF p (picks.l.take (min picks.l.length 60))).2.2 == (2 : Int))) rfl rfl rfl) ?_
  simp only [N]
  refine wl_run rfl (rp_move rfl (v := .bool (((playF p (picks.l.take (min picks.l.length 60))).2.2 == (startF p).2) && ((playF p (picks.l.take (min picks.l.length 60))).2.2 == (2 : Int)))) rfl) ?_
  simp only [N]
  refine wl_g (wn_t rfl rfl) (v := .agg (p.cells).toArray) (fun hg => rp_loadN H 2 rfl rfl rfl Tryz.underlying29 rfl sz29 (Nat.le_of_ble_eq_true rfl) (cs' := p.cells) rfl) ?_
  simp only [N]
  refine wl_gE H (wn_t rfl rfl) (fun hg => fun w => by simp only [gv_t hg]; exact rc_go Tryz.func12 (by kernel_rfl) rfl w) (v := iv (rightF p)) (fun hg => by have x7 : (playF p (picks.l.take (min picks.l.length 60))).2.2 = (startF p).2 := (by simpa using (andl hg)); have x8 : (playF p (picks.l.take (min picks.l.length 60))).2.2 = (2 : Int) := (by simpa using (andr hg)); exact (rightF_spec p _ (H.ro_at 1 rfl) (H.ro_at 3 rfl))) ?_
  clear H; intro w8 H
  simp only [N]
  refine wl_g (wn_t rfl rfl) (v := .bool ((rightF p) != (0 : Int))) (fun hg => by have x9 : (playF p (picks.l.take (min picks.l.length 60))).2.2 = (startF p).2 := (by simpa using (andl hg)); have x10 : (playF p (picks.l.take (min picks.l.length 60))).2.2 = (2 : Int) := (by simpa using (andr hg)); exact (by simp only [gv_t hg]; exact rp_int_neq rfl (rightF p) (0 : Int) rfl rfl)) ?_
  simp only [N]
  refine wl_run rfl (rp_pickA rfl (p := (((playF p (picks.l.take (min picks.l.length 60))).2.2 == (startF p).2) && ((playF p (picks.l.take (min picks.l.length 60))).2.2 == (2 : Int)))) (q := ((rightF p) != (0 : Int))) rfl rfl rfl) ?_
  simp only [N]
  refine wl_run rfl (rp_move rfl (v := .bool ((((playF p (picks.l.take (min picks.l.length 60))).2.2 == (startF p).2) && ((playF p (picks.l.take (min picks.l.length 60))).2.2 == (2 : Int))) && ((rightF p) != (0 : Int)))) rfl) ?_
  simp only [N]
  refine wl_g (wn_t rfl rfl) (v := (⟨xd29_.1, xd29_.2, (playF p (picks.l.take (min picks.l.length 60))).2.1⟩ : Sl Int).val) (fun hg => rp_move rfl (v := (⟨xd29_.1, xd29_.2, (playF p (picks.l.take (min picks.l.length 60))).2.1⟩ : Sl Int).val) rfl) ?_
  simp only [N]
  refine wl_g (wn_t rfl rfl) (v := iv (((playF p (picks.l.take (min picks.l.length 60))).2.1.length : Nat) : Int)) (fun hg => by have x14 : (playF p (picks.l.take (min picks.l.length 60))).2.2 = (startF p).2 := (by simpa using (andl (andl hg))); have x15 : (playF p (picks.l.take (min picks.l.length 60))).2.2 = (2 : Int) := (by simpa using (andr (andl hg))); have x16 : (rightF p) ≠ (0 : Int) := (by simpa using (andr hg)); exact (by simp only [gv_t hg]; exact rp_len_sl (s := (⟨xd29_.1, xd29_.2, (playF p (picks.l.take (min picks.l.length 60))).2.1⟩ : Sl Int)) Tryz.underlying44 rfl)) ?_
  simp only [N]
  refine wl_g (wn_t rfl rfl) (v := .bool ((((playF p (picks.l.take (min picks.l.length 60))).2.1.length : Nat) : Int) == (0 : Int))) (fun hg => by have x17 : (playF p (picks.l.take (min picks.l.length 60))).2.2 = (startF p).2 := (by simpa using (andl (andl hg))); have x18 : (playF p (picks.l.take (min picks.l.length 60))).2.2 = (2 : Int) := (by simpa using (andr (andl hg))); have x19 : (rightF p) ≠ (0 : Int) := (by simpa using (andr hg)); exact (by simp only [gv_t hg]; exact rp_int_eql rfl (((playF p (picks.l.take (min picks.l.length 60))).2.1.length : Nat) : Int) (0 : Int) rfl rfl)) ?_
  simp only [N]
  refine wl_run rfl (rp_pickA rfl (p := ((((playF p (picks.l.take (min picks.l.length 60))).2.2 == (startF p).2) && ((playF p (picks.l.take (min picks.l.length 60))).2.2 == (2 : Int))) && ((rightF p) != (0 : Int)))) (q := ((((playF p (picks.l.take (min picks.l.length 60))).2.1.length : Nat) : Int) == (0 : Int))) rfl rfl rfl) ?_
  simp only [N]
  refine wl_run rfl (rp_move rfl (v := .bool (((((playF p (picks.l.take (min picks.l.length 60))).2.2 == (startF p).2) && ((playF p (picks.l.take (min picks.l.length 60))).2.2 == (2 : Int))) && ((rightF p) != (0 : Int))) && ((((playF p (picks.l.take (min picks.l.length 60))).2.1.length : Nat) : Int) == (0 : Int)))) rfl) ?_
  simp only [N]
  refine wl_g (wn_t rfl rfl) (v := .agg (enc (playF p (picks.l.take (min picks.l.length 60))).1).toArray) (fun hg => rp_loadWe H 1 rfl rfl rfl Tryz.underlying65 rfl (by first | exact sz65 | (rw [sz65]; congr 1; first | omega | (simp [-List.reduceReplicate]; done) | (simp [-List.reduceReplicate]; omega) | (simp [*, -List.reduceReplicate]; done) | (simp [*, -List.reduceReplicate]; omega))) rfl) ?_
  simp only [N]
  refine wl_g (wn_t rfl rfl) (v := .agg (enc (List.replicate 38 (0 : UInt8))).toArray) (fun hg => rp_build rfl (vs := []) rfl (cs := (enc (List.replicate 38 (0 : UInt8))).toArray) (by kernel_rfl)) ?_
  simp only [N]
  refine wl_g (wn_t rfl rfl) (v := .bool (decide ((playF p (picks.l.take (min picks.l.length 60))).1 = (List.replicate 38 (0 : UInt8))))) (fun hg => by have x28 : (playF p (picks.l.take (min picks.l.length 60))).2.2 = (startF p).2 := (by simpa using (andl (andl (andl hg)))); have x29 : (playF p (picks.l.take (min picks.l.length 60))).2.2 = (2 : Int) := (by simpa using (andr (andl (andl hg)))); have x30 : (rightF p) ≠ (0 : Int) := (by simpa using (andr (andl hg))); have x31 : (((playF p (picks.l.take (min picks.l.length 60))).2.1.length : Nat) : Int) = (0 : Int) := (by simpa using (andr hg)); exact (by simp only [gv_t hg]; exact rp_eql_leafs rfl 6 (by decide) (by kernel_rfl) (by kernel_rfl) (ks := (List.replicate 38 (.int .u8))) (by kernel_rfl) (xs := enc (playF p (picks.l.take (min picks.l.length 60))).1) (ys := enc (List.replicate 38 (0 : UInt8))) rfl rfl (formed_enc Tryz.underlying65 rfl sz65 (by first | omega | (simp [-List.reduceReplicate]; done) | (simp [-List.reduceReplicate]; omega) | (simp [*, -List.reduceReplicate]; done) | (simp [*, -List.reduceReplicate]; omega))) (formed_enc Tryz.underlying65 rfl sz65 (by first | omega | (simp [-List.reduceReplicate]; done) | (simp [-List.reduceReplicate]; omega) | (simp [*, -List.reduceReplicate]; done) | (simp [*, -List.reduceReplicate]; omega))) (fits_enc (by first | omega | (simp [-List.reduceReplicate]; done) | (simp [-List.reduceReplicate]; omega) | (simp [*, -List.reduceReplicate]; done) | (simp [*, -List.reduceReplicate]; omega))) (fits_enc (by first | omega | (simp [-List.reduceReplicate]; done) | (simp [-List.reduceReplicate]; omega) | (simp [*, -List.reduceReplicate]; done) | (simp [*, -List.reduceReplicate]; omega))) (r := (decide ((playF p (picks.l.take (min picks.l.length 60))).1 = (List.replicate 38 (0 : UInt8))))) (by exact enc_iff _ _))) ?_
  simp only [N]
  refine wl_run rfl (rp_pickA rfl (p := (((((playF p (picks.l.take (min picks.l.length 60))).2.2 == (startF p).2) && ((playF p (picks.l.take (min picks.l.length 60))).2.2 == (2 : Int))) && ((rightF p) != (0 : Int))) && ((((playF p (picks.l.take (min picks.l.length 60))).2.1.length : Nat) : Int) == (0 : Int)))) (q := (decide ((playF p (picks.l.take (min picks.l.length 60))).1 = (List.replicate 38 (0 : UInt8))))) rfl rfl rfl) ?_
  simp only [N]
  refine wl_run rfl (rp_move rfl (v := .bool ((((((playF p (picks.l.take (min picks.l.length 60))).2.2 == (startF p).2) && ((playF p (picks.l.take (min picks.l.length 60))).2.2 == (2 : Int))) && ((rightF p) != (0 : Int))) && ((((playF p (picks.l.take (min picks.l.length 60))).2.1.length : Nat) : Int) == (0 : Int))) && (decide ((playF p (picks.l.take (min picks.l.length 60))).1 = (List.replicate 38 (0 : UInt8)))))) rfl) ?_
  simp only [N]
  refine wl_gE H (wn_t rfl rfl) (fun hg => rc_go Tryz.func13 (by kernel_rfl) rfl) (v := .bool true) (fun hg => by have x32 : (playF p (picks.l.take (min picks.l.length 60))).2.2 = (startF p).2 := (by simpa using (andl (andl (andl (andl hg))))); have x33 : (playF p (picks.l.take (min picks.l.length 60))).2.2 = (2 : Int) := (by simpa using (andr (andl (andl (andl hg))))); have x34 : (rightF p) ≠ (0 : Int) := (by simpa using (andr (andl (andl hg)))); have x35 : (((playF p (picks.l.take (min picks.l.length 60))).2.1.length : Nat) : Int) = (0 : Int) := (by simpa using (andr (andl hg))); exact (awake_spec _ (H.ro_at 3 rfl))) ?_
  clear H; intro w9 H
  simp only [N]
  refine wl_run rfl (rp_pickA rfl (p := ((((((playF p (picks.l.take (min picks.l.length 60))).2.2 == (startF p).2) && ((playF p (picks.l.take (min picks.l.length 60))).2.2 == (2 : Int))) && ((rightF p) != (0 : Int))) && ((((playF p (picks.l.take (min picks.l.length 60))).2.1.length : Nat) : Int) == (0 : Int))) && (decide ((playF p (picks.l.take (min picks.l.length 60))).1 = (List.replicate 38 (0 : UInt8)))))) (q := true) rfl rfl rfl) ?_
  simp only [N]
  refine wl_run rfl (rp_assign rfl (v := .bool (((((((playF p (picks.l.take (min picks.l.length 60))).2.2 == (startF p).2) && ((playF p (picks.l.take (min picks.l.length 60))).2.2 == (2 : Int))) && ((rightF p) != (0 : Int))) && ((((playF p (picks.l.take (min picks.l.length 60))).2.1.length : Nat) : Int) == (0 : Int))) && (decide ((playF p (picks.l.take (min picks.l.length 60))).1 = (List.replicate 38 (0 : UInt8))))) && true)) rfl) ?_
  simp only [N]
  refine wpList_nil ?_
  refine wp_ret ?_
  try simp only [Exit.inBlock, Exit.then, cutP]
  refine bodyPost_ret (results1 rfl (rv_tmp rfl)) rfl ?_
  have hF : (playsL p picks.l) = (((((((playF p (picks.l.take (min picks.l.length 60))).2.2 == (startF p).2) && ((playF p (picks.l.take (min picks.l.length 60))).2.2 == (2 : Int))) && ((rightF p) != (0 : Int))) && ((((playF p (picks.l.take (min picks.l.length 60))).2.1.length : Nat) : Int) == (0 : Int))) && (decide ((playF p (picks.l.take (min picks.l.length 60))).1 = (List.replicate 38 (0 : UInt8))))) && true) := (hFa).trans (bt hc1)
  rw [hF]
  exact ⟨rfl, H.ext⟩
 · --F 1
  have hc1N36 : (playF p (picks.l.take (min picks.l.length 60))).2.2 = (startF p).2 := (by simpa using (orl hc1))
  have hc1N37 : (playF p (picks.l.take (min picks.l.length 60))).2.2 = (0 : Int) := (by simpa using (orr hc1))
  have hr : RightOk p := start_ok (by have h := hc1; simp only [Bool.or_eq_false_iff, bne_eq_false_iff_eq] at h; exact h.1.symm.trans h.2)
  have hr1 := hr.threads
  have hr2 := fun S => moves_len hr S
  have hr3 := play_order (right_start (by have h := hc1; simp only [Bool.or_eq_false_iff, bne_eq_false_iff_eq] at h; exact h.1.symm.trans h.2)) (picks.l.take (min picks.l.length 60))
  refine wp_skip ?_
  refine wp_seq ?_
  refine wp_region_lit ?_
  refine wl_run rfl (rp_assign rfl (v := iv (0 : Int)) rfl) ?_
  simp only [N]
  refine wpList_nil ?_
  refine wp_seq ?_
  refine wp_seq ?_
  refine wp_region_lit ?_
  refine wl_run rfl (rp_fieldAddr rfl Tryz.underlying29 rfl 3 rfl sz24 rfl (3) rfl) ?_
  simp only [N]
  refine wl_run rfl (rp_load1 H 2 rfl rfl rfl Tryz.underlying24 rfl (v := p.threads.val) rfl) ?_
  simp only [N]
  refine wl_run rfl (rp_len_sl (s := p.threads) Tryz.underlying24 rfl) ?_
  simp only [N]
  refine wl_run rfl (rp_move rfl (v := iv (0 : Int)) rfl) ?_
  simp only [N]
  refine wpList_nil ?_
  refine wp_block ?_
  refine wp_loopX (fun m' a' w' => ∃ (b10 : Nat) (b73 : Nat), a' = ⟨#[(ua 0), picks.val, .pointer (some ⟨b1, 0, none⟩), undef, (ua 4), .pointer (some ⟨bd5, 0, none⟩), (⟨xd29_.1, xd29_.2, (playF p (picks.l.take (min picks.l.length 60))).2.1⟩ : Sl Int).val, (tq a' 7), .pointer (some ⟨b2, 0, none⟩), (tq a' 9), iv ((b10 : Nat) : Int), undef, (tq a' 12), undef, undef, undef, undef, undef, undef, undef, undef, undef, (ua 22), (ua 23), (ua 24), (ua 25), (ua 26), (ua 27), (ua 28), (ua 29), (ua 30), (ua 31), (ua 32), (tq a' 33), (tq a' 34), (tq a' 35), (tq a' 36), (tq a' 37), (tq a' 38), (tq a' 39), (tq a' 40), (tq a' 41), (tq a' 42), (tq a' 43), (tq a' 44), undef, undef, undef, undef, undef, undef, undef, undef, undef, undef, undef, undef, undef, undef, undef, undef, undef, undef, undef, undef, undef, undef, undef, undef, undef, (tq a' 70), p.threads.val, iv ((p.threads.l.length : Nat) : Int), iv ((b73 : Nat) : Int), (tq a' 74), (tq a' 75), (tq a' 76), (tq a' 77), (tq a' 78), (tq a' 79), (tq a' 80), (tq a' 81), undef, undef, undef, undef, undef, undef, undef, undef, undef, undef, undef, undef, undef, undef, undef, undef, undef, undef, undef, undef, undef, undef, undef, undef, undef, undef, undef, undef, undef, undef, undef, undef, undef, undef, undef, undef, undef, undef, undef, undef, undef, undef, undef, undef, undef, undef, undef, undef, undef, undef, undef, undef, undef, undef, undef, undef, undef, undef, undef, undef, undef, undef, undef, undef, undef, undef, undef, undef, undef, undef, undef, undef, undef, undef, undef, undef, undef], []⟩ ∧ Own w [] [SlIn 1 eInt (⟨xd29_.1, xd29_.2, (playF p (picks.l.take (min picks.l.length 60))).2.1⟩ : Sl Int), IsProg p, SlIn 1 eByte picks, Glob] [.blk b2 (.cells (enc (startF p).1).toArray 41 (0, 0)), .blk bd5 (.cells (enc (playF p (picks.l.take (min picks.l.length 60))).1).toArray 65 (0, 0)), .blk b1 (.cells (p.cells).toArray 29 (0, 0))] w' ∧ (b10 ≤ 12 * b73) ∧ (b73 ≤ p.threads.l.length) ∧ (playsL p picks.l) = loopL playsL_b (playsL_bk p picks.l) (p.threads.l.drop b73) b10 ∧ m' = p.threads.l.length - b73) _ ⟨0, 0, (by kernel_rfl), H, (by omega), (by omega), (hFa).trans (bf hc1), rfl⟩ ?_
  clear H
  rintro _ a_ w10 ⟨b10, b73, ha_, H, hib0, hib1, hFb, rfl⟩
  obtain ⟨ub, hu_⟩ : ∃ ub : Nat → Value, a_ = ⟨#[(ua 0), picks.val, .pointer (some ⟨b1, 0, none⟩), undef, (ua 4), .pointer (some ⟨bd5, 0, none⟩), (⟨xd29_.1, xd29_.2, (playF p (picks.l.take (min picks.l.length 60))).2.1⟩ : Sl Int).val, (ub 7), .pointer (some ⟨b2, 0, none⟩), (ub 9), iv ((b10 : Nat) : Int), undef, (ub 12), undef, undef, undef, undef, undef, undef, undef, undef, undef, (ua 22), (ua 23), (ua 24), (ua 25), (ua 26), (ua 27), (ua 28), (ua 29), (ua 30), (ua 31), (ua 32), (ub 33), (ub 34), (ub 35), (ub 36), (ub 37), (ub 38), (ub 39), (ub 40), (ub 41), (ub 42), (ub 43), (ub 44), undef, undef, undef, undef, undef, undef, undef, undef, undef, undef, undef, undef, undef, undef, undef, undef, undef, undef, undef, undef, undef, undef, undef, undef, undef, (ub 70), p.threads.val, iv ((p.threads.l.length : Nat) : Int), iv ((b73 : Nat) : Int), (ub 74), (ub 75), (ub 76), (ub 77), (ub 78), (ub 79), (ub 80), (ub 81), undef, undef, undef, undef, undef, undef, undef, undef, undef, undef, undef, undef, undef, undef, undef, undef, undef, undef, undef, undef, undef, undef, undef, undef, undef, undef, undef, undef, undef, undef, undef, undef, undef, undef, undef, undef, undef, undef, undef, undef, undef, undef, undef, undef, undef, undef, undef, undef, undef, undef, undef, undef, undef, undef, undef, undef, undef, undef, undef, undef, undef, undef, undef, undef, undef, undef, undef, undef, undef, undef, undef, undef, undef, undef, undef, undef, undef], []⟩ := ⟨fun n => tq a_ n, ha_⟩
  clear ha_; subst hu_
  have hlb := len_le hr b73
  refine wp_seq ?_
  refine wp_region_lit ?_
  refine wl_run rfl (rp_int_lss rfl ((b73 : Nat) : Int) ((p.threads.l.length : Nat) : Int) rfl rfl) ?_
  simp only [N]
  refine wpList_nil ?_
  refine wp_seq ?_
  refine wp_cond_split rfl (fun hc2 => ?_) (fun hc2 => ?_)
  · --T 2
   have hc2N38 : ((b73 : Nat) : Int) < ((p.threads.l.length : Nat) : Int) := (by simpa using hc2)
   obtain ⟨rb, hrb⟩ : ∃ r, r = loopL playsL_b (playsL_bk p picks.l) (p.threads.l.drop (b73 + 1)) := ⟨_, rfl⟩
   have hFb2 := hFb.trans (loopL_step (show b73 < p.threads.l.length by omega))
   rw [← hrb] at hFb2
   refine wp_skip ?_
   refine wp_seq ?_
   refine wp_block ?_
   refine wp_seq ?_
   refine wp_region_lit ?_
   refine wl_run rfl (rp_indexAddr_sl (IsProg.threads ((H.ro_at 1 rfl))) rfl Tryz.underlying24 sz53 rfl b73 rfl (by omega)) ?_
   simp only [N]
   refine wl_run rfl (rp_load1_sl (IsProg.threads ((H.ro_at 1 rfl))) (b73) (by omega) rfl Tryz.underlying53 rfl 0 rfl (by omega) (v := (p.threads.l.getD (b73) default).val) rfl) ?_
   simp only [N]
   refine wl_run rfl (rp_assign rfl (v := (p.threads.l.getD (b73) default).val) rfl) ?_
   simp only [N]
   refine wpList_nil ?_
   refine wp_region_lit ?_
   refine wl_run rfl (rp_move rfl (v := iv ((b10 : Nat) : Int)) rfl) ?_
   simp only [N]
   refine wl_run rfl (rp_move rfl (v := (p.threads.l.getD (b73) default).val) rfl) ?_
   simp only [N]
   refine wl_run rfl (rp_len_sl (s := (p.threads.l.getD (b73) default)) Tryz.underlying53 rfl) ?_
   simp only [N]
   refine wl_run rfl (rp_int_add rfl ((b10 : Nat) : Int) (((p.threads.l.getD (b73) default).l.length : Nat) : Int) rfl rfl (by omega)) ?_
   simp only [N]
   refine wl_run rfl (rp_assign rfl (v := iv (((b10 : Nat) : Int) + (((p.threads.l.getD (b73) default).l.length : Nat) : Int))) rfl) ?_
   simp only [N]
   refine wpList_nil ?_
   refine wp_region_lit ?_
   refine wl_run rfl (rp_int_add rfl ((b73 : Nat) : Int) (1 : Int) rfl rfl (by omega)) ?_
   simp only [N]
   refine wl_run rfl (rp_move rfl (v := iv (((b73 : Nat) : Int) + (1 : Int))) rfl) ?_
   simp only [N]
   refine wpList_nil ?_
   show ∃ n', n' < _ ∧ _
   refine ⟨_, ?_, (b10 + (p.threads.l.getD (b73) default).l.length), (b73 + 1), (by kernel_rfl), H, (by have := len_le hr b73; omega), (by omega), (hFb2).trans (congrFun hrb _), rfl⟩
   omega
  · --F 2
   have hc2N39 : ((p.threads.l.length : Nat) : Int) ≤ ((b73 : Nat) : Int) := (by simpa using hc2)
   have hFb2 := hFb.trans (loopL_end (show p.threads.l.length ≤ b73 by omega))
   refine wp_exit ?_
   refine wp_seq ?_
   refine wp_region_lit ?_
   refine wl_run rfl (rp_assign rfl (v := (.slice none 0 0)) rfl) ?_
   simp only [N]
   refine wpList_nil ?_
   refine wp_seq ?_
   refine wp_seq ?_
   refine wp_region_lit ?_
   refine wl_run rfl (rp_move rfl (v := (⟨xd29_.1, xd29_.2, (playF p (picks.l.take (min picks.l.length 60))).2.1⟩ : Sl Int).val) rfl) ?_
   simp only [N]
   refine wl_run rfl (rp_len_sl (s := (⟨xd29_.1, xd29_.2, (playF p (picks.l.take (min picks.l.length 60))).2.1⟩ : Sl Int)) Tryz.underlying44 rfl) ?_
   simp only [N]
   refine wl_run rfl (rp_move rfl (v := iv (0 : Int)) rfl) ?_
   simp only [N]
   refine wpList_nil ?_
   refine wp_block ?_
   have H := H.rowNilT eByte 5 1
   refine wp_loopX (fun m' a' w' => ∃ (c84 : Nat) (crow1 : List UInt8) (cb2 : List UInt8) (cvrow1 : Value), a' = ⟨#[(ua 0), picks.val, .pointer (some ⟨b1, 0, none⟩), undef, (tq a' 4), .pointer (some ⟨bd5, 0, none⟩), (⟨xd29_.1, xd29_.2, (playF p (picks.l.take (min picks.l.length 60))).2.1⟩ : Sl Int).val, (tq a' 7), .pointer (some ⟨b2, 0, none⟩), (ub 9), iv ((b10 : Nat) : Int), undef, (ub 12), cvrow1, undef, (tq a' 15), (tq a' 16), (tq a' 17), (tq a' 18), undef, undef, undef, (ua 22), (ua 23), (ua 24), (ua 25), (ua 26), (ua 27), (ua 28), (ua 29), (ua 30), (ua 31), (ua 32), (ub 33), (ub 34), (ub 35), (ub 36), (ub 37), (ub 38), (ub 39), (ub 40), (ub 41), (ub 42), (ub 43), (ub 44), undef, undef, undef, undef, undef, undef, undef, undef, undef, undef, undef, undef, undef, undef, undef, undef, undef, undef, undef, undef, undef, undef, undef, undef, undef, (ub 70), (tq a' 71), (tq a' 72), (tq a' 73), (tq a' 74), (ub 75), (ub 76), (ub 77), (ub 78), (ub 79), (ub 80), (ub 81), (⟨xd29_.1, xd29_.2, (playF p (picks.l.take (min picks.l.length 60))).2.1⟩ : Sl Int).val, iv (((playF p (picks.l.take (min picks.l.length 60))).2.1.length : Nat) : Int), iv ((c84 : Nat) : Int), (tq a' 85), (tq a' 86), (tq a' 87), (tq a' 88), (tq a' 89), (tq a' 90), (tq a' 91), (tq a' 92), (tq a' 93), (tq a' 94), (tq a' 95), (tq a' 96), (tq a' 97), (tq a' 98), (tq a' 99), (tq a' 100), (tq a' 101), (tq a' 102), (tq a' 103), (tq a' 104), (tq a' 105), (tq a' 106), (tq a' 107), (tq a' 108), (tq a' 109), (tq a' 110), (tq a' 111), (tq a' 112), (tq a' 113), (tq a' 114), (tq a' 115), (tq a' 116), undef, undef, undef, undef, undef, undef, undef, undef, undef, undef, undef, undef, undef, undef, undef, undef, undef, undef, undef, undef, undef, undef, undef, undef, undef, undef, undef, undef, undef, undef, undef, undef, undef, undef, undef, undef, undef, undef, undef, undef, undef, undef], []⟩ ∧ Own w [] [SlIn 1 eInt (⟨xd29_.1, xd29_.2, (playF p (picks.l.take (min picks.l.length 60))).2.1⟩ : Sl Int), IsProg p, SlIn 1 eByte picks, Glob] [.row cvrow1 5 1 crow1.length (crow1.flatMap eByte), .blk b2 (.cells (enc cb2).toArray 41 (0, 0)), .blk bd5 (.cells (enc (playF p (picks.l.take (min picks.l.length 60))).1).toArray 65 (0, 0)), .blk b1 (.cells (p.cells).toArray 29 (0, 0))] w' ∧ (cb2.length = 142) ∧ (crow1.length ≤ 4 * c84) ∧ (c84 ≤ (playF p (picks.l.take (min picks.l.length 60))).2.1.length) ∧ (playsL p picks.l) = loopL (playsL_c p picks.l) (playsL_ck p picks.l b10) ((playF p (picks.l.take (min picks.l.length 60))).2.1.drop c84) (c84, crow1, cb2) ∧ m' = (playF p (picks.l.take (min picks.l.length 60))).2.1.length - c84) _ ⟨0, ([] : List UInt8), (startF p).1, (.slice none 0 0), (by kernel_rfl), H, (by first | omega | (simp [-List.reduceReplicate]; done) | (simp [-List.reduceReplicate]; omega) | (simp [*, -List.reduceReplicate]; done) | (simp [*, -List.reduceReplicate]; omega)), (by simp), (by omega), hFb2, rfl⟩ ?_
   clear H
   rintro _ a_ w11 ⟨c84, crow1, cb2, cvrow1, ha_, H, hic0, hic1, hic2, hFc, rfl⟩
   obtain ⟨uc, hu_⟩ : ∃ uc : Nat → Value, a_ = ⟨#[(ua 0), picks.val, .pointer (some ⟨b1, 0, none⟩), undef, (uc 4), .pointer (some ⟨bd5, 0, none⟩), (⟨xd29_.1, xd29_.2, (playF p (picks.l.take (min picks.l.length 60))).2.1⟩ : Sl Int).val, (uc 7), .pointer (some ⟨b2, 0, none⟩), (ub 9), iv ((b10 : Nat) : Int), undef, (ub 12), cvrow1, undef, (uc 15), (uc 16), (uc 17), (uc 18), undef, undef, undef, (ua 22), (ua 23), (ua 24), (ua 25), (ua 26), (ua 27), (ua 28), (ua 29), (ua 30), (ua 31), (ua 32), (ub 33), (ub 34), (ub 35), (ub 36), (ub 37), (ub 38), (ub 39), (ub 40), (ub 41), (ub 42), (ub 43), (ub 44), undef, undef, undef, undef, undef, undef, undef, undef, undef, undef, undef, undef, undef, undef, undef, undef, undef, undef, undef, undef, undef, undef, undef, undef, undef, (ub 70), (uc 71), (uc 72), (uc 73), (uc 74), (ub 75), (ub 76), (ub 77), (ub 78), (ub 79), (ub 80), (ub 81), (⟨xd29_.1, xd29_.2, (playF p (picks.l.take (min picks.l.length 60))).2.1⟩ : Sl Int).val, iv (((playF p (picks.l.take (min picks.l.length 60))).2.1.length : Nat) : Int), iv ((c84 : Nat) : Int), (uc 85), (uc 86), (uc 87), (uc 88), (uc 89), (uc 90), (uc 91), (uc 92), (uc 93), (uc 94), (uc 95), (uc 96), (uc 97), (uc 98), (uc 99), (uc 100), (uc 101), (uc 102), (uc 103), (uc 104), (uc 105), (uc 106), (uc 107), (uc 108), (uc 109), (uc 110), (uc 111), (uc 112), (uc 113), (uc 114), (uc 115), (uc 116), undef, undef, undef, undef, undef, undef, undef, undef, undef, undef, undef, undef, undef, undef, undef, undef, undef, undef, undef, undef, undef, undef, undef, undef, undef, undef, undef, undef, undef, undef, undef, undef, undef, undef, undef, undef, undef, undef, undef, undef, undef, undef], []⟩ := ⟨fun n => tq a_ n, ha_⟩
   clear ha_; subst hu_
   have hm4 := hr2 cb2
   refine wp_seq ?_
   refine wp_region_lit ?_
   refine wl_run rfl (rp_int_lss rfl ((c84 : Nat) : Int) (((playF p (picks.l.take (min picks.l.length 60))).2.1.length : Nat) : Int) rfl rfl) ?_
   simp only [N]
   refine wpList_nil ?_
   refine wp_seq ?_
   refine wp_cond_split rfl (fun hc3 => ?_) (fun hc3 => ?_)
   · --T 3
    have hc3N40 : ((c84 : Nat) : Int) < (((playF p (picks.l.take (min picks.l.length 60))).2.1.length : Nat) : Int) := (by simpa using hc3)
    obtain ⟨rc, hrc⟩ : ∃ r, r = loopL (playsL_c p picks.l) (playsL_ck p picks.l b10) ((playF p (picks.l.take (min picks.l.length 60))).2.1.drop (c84 + 1)) := ⟨_, rfl⟩
    have hFc2 := hFc.trans (loopL_step (show c84 < (playF p (picks.l.take (min picks.l.length 60))).2.1.length by omega))
    rw [← hrc] at hFc2
    refine wp_skip ?_
    refine wp_seq ?_
    refine wp_block ?_
    refine wp_seq ?_
    refine wp_region_lit ?_
    refine wl_run rfl (rp_indexAddr_sl (((H.ro_at 0 rfl))) rfl Tryz.underlying44 sz3 rfl c84 rfl (by show _ < (playF p (picks.l.take (min picks.l.length 60))).2.1.length; omega)) ?_
    simp only [N]
    refine wl_run rfl (rp_load1_sl (((H.ro_at 0 rfl))) (c84) (by show _ < (playF p (picks.l.take (min picks.l.length 60))).2.1.length; omega) rfl Tryz.underlying3 rfl 0 rfl (by omega) (v := iv ((playF p (picks.l.take (min picks.l.length 60))).2.1.getD (c84) default)) rfl) ?_
    simp only [N]
    refine wl_run rfl (rp_assign rfl (v := iv ((playF p (picks.l.take (min picks.l.length 60))).2.1.getD (c84) default)) rfl) ?_
    simp only [N]
    refine wpList_nil ?_
    refine wp_seq ?_
    refine wp_region_lit ?_
    refine wl_run rfl (rp_loadN H 3 rfl rfl rfl Tryz.underlying29 rfl sz29 (Nat.le_of_ble_eq_true rfl) (cs' := p.cells) rfl) ?_
    simp only [N]
    refine wl_run rfl (rp_loadWe H 1 rfl rfl rfl Tryz.underlying41 rfl (by first | exact sz41 | (rw [sz41]; congr 1; first | omega | (simp [-List.reduceReplicate]; done) | (simp [-List.reduceReplicate]; omega) | (simp [*, -List.reduceReplicate]; done) | (simp [*, -List.reduceReplicate]; omega))) rfl) ?_
    simp only [N]
    refine wl_callFA H rfl (rc_go Tryz.func11 (by kernel_rfl) rfl) (movesF_spec p cb2 (by first | omega | (simp [-List.reduceReplicate]; done) | (simp [-List.reduceReplicate]; omega) | (simp [*, -List.reduceReplicate]; done) | (simp [*, -List.reduceReplicate]; omega)) _ (H.ro_at 1 rfl) (H.ro_at 3 rfl)) ?_
    clear H; intro x1_ w12 H
    simp only [N]
    have hcx1_0 : (movesF p cb2).length ≤ 140737488355328 := ((FreshAt.now (H.ro_at 0 rfl))).2.2.1
    refine wl_run rfl (rp_assign rfl (v := (⟨x1_.1, x1_.2, (movesF p cb2)⟩ : Sl Int).val) rfl) ?_
    simp only [N]
    refine wpList_nil ?_
    refine wp_seq ?_
    refine wp_seq ?_
    refine wp_region_lit ?_
    refine wl_run rfl (rp_move rfl (v := (⟨x1_.1, x1_.2, (movesF p cb2)⟩ : Sl Int).val) rfl) ?_
    simp only [N]
    refine wl_run rfl (rp_len_sl (s := (⟨x1_.1, x1_.2, (movesF p cb2)⟩ : Sl Int)) Tryz.underlying44 rfl) ?_
    simp only [N]
    refine wl_run rfl (rp_move rfl (v := iv (0 : Int)) rfl) ?_
    simp only [N]
    refine wpList_nil ?_
    refine wp_block ?_
    refine wp_loopX (fun m' a' w' => ∃ (d93 : Nat) (drow1 : List UInt8) (dvrow1 : Value), a' = ⟨#[(ua 0), picks.val, .pointer (some ⟨b1, 0, none⟩), undef, (uc 4), .pointer (some ⟨bd5, 0, none⟩), (⟨xd29_.1, xd29_.2, (playF p (picks.l.take (min picks.l.length 60))).2.1⟩ : Sl Int).val, (uc 7), .pointer (some ⟨b2, 0, none⟩), (ub 9), iv ((b10 : Nat) : Int), undef, (ub 12), dvrow1, undef, iv ((playF p (picks.l.take (min picks.l.length 60))).2.1.getD (c84) default), (tq a' 16), (tq a' 17), (tq a' 18), undef, undef, undef, (ua 22), (ua 23), (ua 24), (ua 25), (ua 26), (ua 27), (ua 28), (ua 29), (ua 30), (ua 31), (ua 32), (ub 33), (ub 34), (ub 35), (ub 36), (ub 37), (ub 38), (ub 39), (ub 40), (ub 41), (ub 42), (ub 43), (ub 44), undef, undef, undef, undef, undef, undef, undef, undef, undef, undef, undef, undef, undef, undef, undef, undef, undef, undef, undef, undef, undef, undef, undef, undef, undef, (ub 70), (uc 71), (uc 72), (uc 73), (uc 74), (ub 75), (ub 76), (ub 77), (ub 78), (ub 79), (ub 80), (ub 81), (⟨xd29_.1, xd29_.2, (playF p (picks.l.take (min picks.l.length 60))).2.1⟩ : Sl Int).val, iv (((playF p (picks.l.take (min picks.l.length 60))).2.1.length : Nat) : Int), iv ((c84 : Nat) : Int), (tq a' 85), (tq a' 86), (tq a' 87), (tq a' 88), (tq a' 89), (tq a' 90), (⟨x1_.1, x1_.2, (movesF p cb2)⟩ : Sl Int).val, iv (((movesF p cb2).length : Nat) : Int), iv ((d93 : Nat) : Int), (tq a' 94), (tq a' 95), (tq a' 96), (tq a' 97), (tq a' 98), (tq a' 99), (tq a' 100), (tq a' 101), (tq a' 102), (tq a' 103), (tq a' 104), (tq a' 105), (tq a' 106), (uc 107), (uc 108), (uc 109), (uc 110), (uc 111), (uc 112), (uc 113), (uc 114), (uc 115), (uc 116), undef, undef, undef, undef, undef, undef, undef, undef, undef, undef, undef, undef, undef, undef, undef, undef, undef, undef, undef, undef, undef, undef, undef, undef, undef, undef, undef, undef, undef, undef, undef, undef, undef, undef, undef, undef, undef, undef, undef, undef, undef, undef], []⟩ ∧ Own w [] [FreshAt w (SlIn 1 eInt (⟨x1_.1, x1_.2, (movesF p cb2)⟩ : Sl Int)), SlIn 1 eInt (⟨xd29_.1, xd29_.2, (playF p (picks.l.take (min picks.l.length 60))).2.1⟩ : Sl Int), IsProg p, SlIn 1 eByte picks, Glob] [.row dvrow1 5 1 drow1.length (drow1.flatMap eByte), .blk b2 (.cells (enc cb2).toArray 41 (0, 0)), .blk bd5 (.cells (enc (playF p (picks.l.take (min picks.l.length 60))).1).toArray 65 (0, 0)), .blk b1 (.cells (p.cells).toArray 29 (0, 0))] w' ∧ (drow1.length ≤ crow1.length + d93) ∧ (d93 ≤ (movesF p cb2).length) ∧ (playsL p picks.l) = loopL (playsL_d p picks.l c84) (playsL_dk p picks.l c84 cb2 rc) ((movesF p cb2).drop d93) (d93, drow1) ∧ m' = (movesF p cb2).length - d93) _ ⟨0, crow1, cvrow1, (by kernel_rfl), H, (by omega), (by omega), hFc2, rfl⟩ ?_
    clear H
    rintro _ a_ w13 ⟨d93, drow1, dvrow1, ha_, H, hid0, hid1, hFd, rfl⟩
    obtain ⟨ud, hu_⟩ : ∃ ud : Nat → Value, a_ = ⟨#[(ua 0), picks.val, .pointer (some ⟨b1, 0, none⟩), undef, (uc 4), .pointer (some ⟨bd5, 0, none⟩), (⟨xd29_.1, xd29_.2, (playF p (picks.l.take (min picks.l.length 60))).2.1⟩ : Sl Int).val, (uc 7), .pointer (some ⟨b2, 0, none⟩), (ub 9), iv ((b10 : Nat) : Int), undef, (ub 12), dvrow1, undef, iv ((playF p (picks.l.take (min picks.l.length 60))).2.1.getD (c84) default), (ud 16), (ud 17), (ud 18), undef, undef, undef, (ua 22), (ua 23), (ua 24), (ua 25), (ua 26), (ua 27), (ua 28), (ua 29), (ua 30), (ua 31), (ua 32), (ub 33), (ub 34), (ub 35), (ub 36), (ub 37), (ub 38), (ub 39), (ub 40), (ub 41), (ub 42), (ub 43), (ub 44), undef, undef, undef, undef, undef, undef, undef, undef, undef, undef, undef, undef, undef, undef, undef, undef, undef, undef, undef, undef, undef, undef, undef, undef, undef, (ub 70), (uc 71), (uc 72), (uc 73), (uc 74), (ub 75), (ub 76), (ub 77), (ub 78), (ub 79), (ub 80), (ub 81), (⟨xd29_.1, xd29_.2, (playF p (picks.l.take (min picks.l.length 60))).2.1⟩ : Sl Int).val, iv (((playF p (picks.l.take (min picks.l.length 60))).2.1.length : Nat) : Int), iv ((c84 : Nat) : Int), (ud 85), (ud 86), (ud 87), (ud 88), (ud 89), (ud 90), (⟨x1_.1, x1_.2, (movesF p cb2)⟩ : Sl Int).val, iv (((movesF p cb2).length : Nat) : Int), iv ((d93 : Nat) : Int), (ud 94), (ud 95), (ud 96), (ud 97), (ud 98), (ud 99), (ud 100), (ud 101), (ud 102), (ud 103), (ud 104), (ud 105), (ud 106), (uc 107), (uc 108), (uc 109), (uc 110), (uc 111), (uc 112), (uc 113), (uc 114), (uc 115), (uc 116), undef, undef, undef, undef, undef, undef, undef, undef, undef, undef, undef, undef, undef, undef, undef, undef, undef, undef, undef, undef, undef, undef, undef, undef, undef, undef, undef, undef, undef, undef, undef, undef, undef, undef, undef, undef, undef, undef, undef, undef, undef, undef], []⟩ := ⟨fun n => tq a_ n, ha_⟩
    clear ha_; subst hu_
    refine wp_seq ?_
    refine wp_region_lit ?_
    refine wl_run rfl (rp_int_lss rfl ((d93 : Nat) : Int) (((movesF p cb2).length : Nat) : Int) rfl rfl) ?_
    simp only [N]
    refine wpList_nil ?_
    refine wp_seq ?_
    refine wp_cond_split rfl (fun hc4 => ?_) (fun hc4 => ?_)
    · --T 4
     have hc4N41 : ((d93 : Nat) : Int) < (((movesF p cb2).length : Nat) : Int) := (by simpa using hc4)
     obtain ⟨rd, hrd⟩ : ∃ r, r = loopL (playsL_d p picks.l c84) (playsL_dk p picks.l c84 cb2 rc) ((movesF p cb2).drop (d93 + 1)) := ⟨_, rfl⟩
     have hFd2 := hFd.trans (loopL_step (show d93 < (movesF p cb2).length by omega))
     rw [← hrd] at hFd2
     refine wp_skip ?_
     refine wp_seq ?_
     refine wp_block ?_
     refine wp_seq ?_
     refine wp_region_lit ?_
     refine wl_run rfl (rp_move rfl (v := iv ((d93 : Nat) : Int)) rfl) ?_
     simp only [N]
     refine wl_run rfl (rp_indexAddr_sl ((FreshAt.now ((H.ro_at 0 rfl)))) rfl Tryz.underlying44 sz3 rfl d93 rfl (by show _ < (movesF p cb2).length; omega)) ?_
     simp only [N]
     refine wl_run rfl (rp_load1_sl ((FreshAt.now ((H.ro_at 0 rfl)))) (d93) (by show _ < (movesF p cb2).length; omega) rfl Tryz.underlying3 rfl 0 rfl (by omega) (v := iv ((movesF p cb2).getD (d93) default)) rfl) ?_
     simp only [N]
     refine wl_run rfl (rp_assign rfl (v := iv ((d93 : Nat) : Int)) rfl) ?_
     simp only [N]
     refine wl_run rfl (rp_assign rfl (v := iv ((movesF p cb2).getD (d93) default)) rfl) ?_
     simp only [N]
     refine wpList_nil ?_
     refine wp_seq ?_
     refine wp_region_lit ?_
     refine wl_run rfl (rp_move rfl (v := iv ((movesF p cb2).getD (d93) default)) rfl) ?_
     simp only [N]
     refine wl_run rfl (rp_move rfl (v := iv ((playF p (picks.l.take (min picks.l.length 60))).2.1.getD (c84) default)) rfl) ?_
     simp only [N]
     refine wl_run rfl (rp_int_eql rfl ((movesF p cb2).getD (d93) default) ((playF p (picks.l.take (min picks.l.length 60))).2.1.getD (c84) default) rfl rfl) ?_
     simp only [N]
     refine wpList_nil ?_
     refine wp_cond_split rfl (fun hc5 => ?_) (fun hc5 => ?_)
     · --T 5
      have hc5N42 : ((movesF p cb2).getD (d93) default) = ((playF p (picks.l.take (min picks.l.length 60))).2.1.getD (c84) default) := (by simpa using hc5)
      refine wp_region_lit ?_
      refine wl_run rfl (rp_move rfl (v := dvrow1) rfl) ?_
      simp only [N]
      refine wl_run rfl (rp_move rfl (v := iv ((d93 : Nat) : Int)) rfl) ?_
      simp only [N]
      refine wl_run rfl (rp_int_to_u8 rfl Tryz.underlying3 Tryz.underlying5 ((d93 : Nat) : Int) rfl) ?_
      simp only [N]
      refine wl_xallocF H rfl (xa_buildSlice rfl Tryz.underlying23 sz5 zv5 (by decide) (by decide) (vs := [(0, bv (UInt8.ofNat (((d93 : Nat) : Int) % 256).toNat))]) rfl (cs := #[bv (UInt8.ofNat (((d93 : Nat) : Int) % 256).toNat)]) (by kernel_rfl)) ?_
      clear H; intro b3 w14 hnb3 H
      simp only [N]
      refine wl_appendT eByte H 0 rfl Tryz.underlying23 sz5 zv5 by5 rfl (by decide) rfl rfl (ad := ⟨b3, 0, none⟩) (m := 1) (c := 1) rfl [(UInt8.ofNat (((d93 : Nat) : Int) % 256).toNat)] rfl eByteN (fun j u hu => cell_of_news (H.ro_at 0 rfl) j u hu) (by intro x; simp [eByte, Value.oneCell']) (by first | omega | (simp only [List.length_append, List.length_cons, List.length_nil]; omega)) (by first | omega | (simp only [List.length_append, List.length_cons, List.length_nil]; omega)) (by simp) ?_
      clear H; intro b4 w15 H; simp only [M] at H
      simp only [N]
      refine wl_run rfl (rp_assign rfl (v := b4) rfl) ?_
      simp only [N]
      refine wpList_nil ?_
      refine wp_region_lit ?_
      refine wl_run rfl (rp_int_add rfl ((d93 : Nat) : Int) (1 : Int) rfl rfl (by omega)) ?_
      simp only [N]
      refine wl_run rfl (rp_move rfl (v := iv (((d93 : Nat) : Int) + (1 : Int))) rfl) ?_
      simp only [N]
      refine wpList_nil ?_
      replace H := H.facts (R' := [FreshAt w (SlIn 1 eInt (⟨x1_.1, x1_.2, (movesF p cb2)⟩ : Sl Int)), SlIn 1 eInt (⟨xd29_.1, xd29_.2, (playF p (picks.l.take (min picks.l.length 60))).2.1⟩ : Sl Int), IsProg p, SlIn 1 eByte picks, Glob]) (by first | exact fun _ h => h | simp)
      show ∃ n', n' < _ ∧ _
      refine ⟨_, ?_, (d93 + 1), (drow1 ++ [(UInt8.ofNat (((d93 : Nat) : Int) % 256).toNat)]), b4, (by kernel_rfl), H, (by first | omega | (simp only [List.length_append, List.length_cons, List.length_nil]; omega)), (by omega), ((hFd2).trans (bt hc5)).trans (congrFun hrd _), rfl⟩
      omega
     · --F 5
      have hc5N43 : ((movesF p cb2).getD (d93) default) ≠ ((playF p (picks.l.take (min picks.l.length 60))).2.1.getD (c84) default) := (by simpa using hc5)
      refine wp_skip ?_
      refine wp_region_lit ?_
      refine wl_run rfl (rp_int_add rfl ((d93 : Nat) : Int) (1 : Int) rfl rfl (by omega)) ?_
      simp only [N]
      refine wl_run rfl (rp_move rfl (v := iv (((d93 : Nat) : Int) + (1 : Int))) rfl) ?_
      simp only [N]
      refine wpList_nil ?_
      show ∃ n', n' < _ ∧ _
      refine ⟨_, ?_, (d93 + 1), drow1, dvrow1, (by kernel_rfl), H, (by first | omega | (simp only [List.length_append, List.length_cons, List.length_nil]; omega)), (by omega), ((hFd2).trans (bf hc5)).trans (congrFun hrd _), rfl⟩
      omega
    · --F 4
     have hc4N44 : (((movesF p cb2).length : Nat) : Int) ≤ ((d93 : Nat) : Int) := (by simpa using hc4)
     have hFd2 := hFd.trans (loopL_end (show (movesF p cb2).length ≤ d93 by omega))
     refine wp_exit ?_
     refine wp_seq ?_
     refine wp_region_lit ?_
     refine wl_run rfl (rp_loadN H 3 rfl rfl rfl Tryz.underlying29 rfl sz29 (Nat.le_of_ble_eq_true rfl) (cs' := p.cells) rfl) ?_
     simp only [N]
     refine wl_run rfl (rp_loadWe H 1 rfl rfl rfl Tryz.underlying41 rfl (by first | exact sz41 | (rw [sz41]; congr 1; first | omega | (simp [-List.reduceReplicate]; done) | (simp [-List.reduceReplicate]; omega) | (simp [*, -List.reduceReplicate]; done) | (simp [*, -List.reduceReplicate]; omega))) rfl) ?_
     simp only [N]
     refine wl_run rfl (rp_move rfl (v := iv ((playF p (picks.l.take (min picks.l.length 60))).2.1.getD (c84) default)) rfl) ?_
     simp only [N]
     refine wl_callE H rfl (rc_go Tryz.func14 (by kernel_rfl) rfl) (moveF_spec p cb2 ((playF p (picks.l.take (min picks.l.length 60))).2.1.getD (c84) default) (by first | omega | (simp [-List.reduceReplicate]; done) | (simp [-List.reduceReplicate]; omega) | (simp [*, -List.reduceReplicate]; done) | (simp [*, -List.reduceReplicate]; omega)) _ (H.ro_at 2 rfl) (H.ro_at 4 rfl)) ?_
     clear H; intro w16 H
     simp only [N]
     generalize hv111 : (moveF p cb2 ((playF p (picks.l.take (min picks.l.length 60))).2.1.getD (c84) default)) = v111
     have hFv111 : (playsL p picks.l) = playsL_v111 c84 drow1 rc v111 := by first | (rw [← hv111]; exact hFd2) | exact hFd2
     have hlv111 : (v111.1).length = 142 := by rw [← hv111]; first | omega | (simp [-List.reduceReplicate]; done) | (simp [-List.reduceReplicate]; omega) | (simp [*, -List.reduceReplicate]; done) | (simp [*, -List.reduceReplicate]; omega)
     refine wl_run rfl (rp_move rfl (v := .tuple #[.agg (enc v111.1).toArray, iv v111.2]) rfl) ?_
     simp only [N]
     refine wl_run rfl (rp_extract rfl rfl (v := .agg (enc v111.1).toArray) rfl) ?_
     simp only [N]
     refine wl_run rfl (rp_extract rfl rfl (v := iv v111.2) rfl) ?_
     simp only [N]
     refine wl_storeW H 1 rfl rfl rfl rfl (vs := (enc v111.1).toArray) rfl (fun v hv => enc_one v (by simpa using hv)) (by first | (rw [sz41]; congr 1; done) | (rw [sz41]; congr 1; first | omega | (simp [-List.reduceReplicate]; done) | (simp [-List.reduceReplicate]; omega) | (simp [*, -List.reduceReplicate]; done) | (simp [*, -List.reduceReplicate]; omega))) (by first | omega | (simp [-List.reduceReplicate]; done) | (simp [-List.reduceReplicate]; omega) | (simp [*, -List.reduceReplicate]; done) | (simp [*, -List.reduceReplicate]; omega)) ?_
     clear H; intro w17 H; simp only [M] at H
     simp only [N]
     refine wl_run rfl (rp_assign rfl (v := iv v111.2) rfl) ?_
     simp only [N]
     refine wpList_nil ?_
     refine wp_seq ?_
     refine wp_region_lit ?_
     refine wl_run rfl (rp_move rfl (v := iv v111.2) rfl) ?_
     simp only [N]
     refine wl_run rfl (rp_int_neq rfl v111.2 (0 : Int) rfl rfl) ?_
     simp only [N]
     refine wpList_nil ?_
     refine wp_cond_split rfl (fun hc6 => ?_) (fun hc6 => ?_)
     · --T 6
      have hc6N45 : v111.2 ≠ (0 : Int) := (by simpa using hc6)
      refine wp_seq ?_
      refine wp_region_lit ?_
      refine wl_run rfl (rp_assign rfl (v := .bool false) rfl) ?_
      simp only [N]
      refine wpList_nil ?_
      refine wp_ret ?_
      try simp only [Exit.inBlock, Exit.then, cutP]
      refine bodyPost_ret (results1 rfl (rv_tmp rfl)) rfl ?_
      have hF : (playsL p picks.l) = false := (hFv111).trans (bt hc6)
      rw [hF]
      exact ⟨rfl, H.ext⟩
     · --F 6
      have hc6N46 : v111.2 = (0 : Int) := (by simpa using hc6)
      refine wp_skip ?_
      refine wp_region_lit ?_
      refine wl_run rfl (rp_int_add rfl ((c84 : Nat) : Int) (1 : Int) rfl rfl (by omega)) ?_
      simp only [N]
      refine wl_run rfl (rp_move rfl (v := iv (((c84 : Nat) : Int) + (1 : Int))) rfl) ?_
      simp only [N]
      refine wpList_nil ?_
      replace H := H.facts (R' := [SlIn 1 eInt (⟨xd29_.1, xd29_.2, (playF p (picks.l.take (min picks.l.length 60))).2.1⟩ : Sl Int), IsProg p, SlIn 1 eByte picks, Glob]) (by first | exact fun _ h => h | simp)
      show ∃ n', n' < _ ∧ _
      refine ⟨_, ?_, (c84 + 1), drow1, v111.1, dvrow1, (by kernel_rfl), H, (by first | omega | (simp [-List.reduceReplicate]; done) | (simp [-List.reduceReplicate]; omega) | (simp [*, -List.reduceReplicate]; done) | (simp [*, -List.reduceReplicate]; omega)), (by have := hr2 cb2; omega), (by omega), ((hFv111).trans (bf hc6)).trans (congrFun hrc _), rfl⟩
      omega
   · --F 3
    have hc3N47 : (((playF p (picks.l.take (min picks.l.length 60))).2.1.length : Nat) : Int) ≤ ((c84 : Nat) : Int) := (by simpa using hc3)
    have hFc2 := hFc.trans (loopL_end (show (playF p (picks.l.take (min picks.l.length 60))).2.1.length ≤ c84 by omega))
    refine wp_exit ?_
    refine wp_seq ?_
    refine wp_region_lit ?_
    refine wl_run rfl (rp_loadN H 3 rfl rfl rfl Tryz.underlying29 rfl sz29 (Nat.le_of_ble_eq_true rfl) (cs' := p.cells) rfl) ?_
    simp only [N]
    obtain ⟨fz1, hfz1, hfs1⟩ := row_sl H 0 rfl crow1 rfl rfl eByteN (by first | omega | (simp only [List.length_append, List.length_cons, List.length_nil]; omega))
    replace H := H.order [0, 1, 2, 3] rfl (L' := [.row cvrow1 5 1 crow1.length (crow1.flatMap eByte), .blk b2 (.cells (enc cb2).toArray 41 (0, 0)), .blk bd5 (.cells (enc (playF p (picks.l.take (min picks.l.length 60))).1).toArray 65 (0, 0)), .blk b1 (.cells (p.cells).toArray 29 (0, 0))]) rfl
    replace H := H.freeze (H.newrow 0 rfl)
    replace H := H.infer (SlIn 1 eByte (⟨fz1.1, fz1.2, crow1⟩ : Sl UInt8)) (fun _ hR => hfs1 _ (ro_mem hR 0 rfl))
    subst hfz1
    have hcfz1 : crow1.length ≤ 140737488355328 := (H.ro_at 0 rfl).2.2.1
    refine wl_run rfl (rp_move rfl (v := (⟨fz1.1, fz1.2, crow1⟩ : Sl UInt8).val) rfl) ?_
    simp only [N]
    refine wl_callFA H rfl (rc_go Tryz.func18 (by kernel_rfl) rfl) (playF_spec p (⟨fz1.1, fz1.2, crow1⟩ : Sl UInt8) _ (H.ro_at 3 rfl) (((H.ro_at 0 rfl))) (H.ro_at 5 rfl)) ?_
    clear H; intro x2_ w18 H
    simp only [N]
    have hcx2_0 : ((playF p crow1).2.1).length ≤ 140737488355328 := ((FreshAt.now (H.ro_at 0 rfl))).2.2.1
    refine wl_run rfl (rp_move rfl (v := .tuple #[.agg (enc (playF p crow1).1).toArray, (⟨x2_.1, x2_.2, (playF p crow1).2.1⟩ : Sl Int).val, iv (playF p crow1).2.2]) rfl) ?_
    simp only [N]
    refine wl_run rfl (rp_extract rfl rfl (v := .agg (enc (playF p crow1).1).toArray) rfl) ?_
    simp only [N]
    refine wl_run rfl (rp_extract rfl rfl (v := (⟨x2_.1, x2_.2, (playF p crow1).2.1⟩ : Sl Int).val) rfl) ?_
    simp only [N]
    refine wl_run rfl (rp_extract rfl rfl (v := iv (playF p crow1).2.2) rfl) ?_
    simp only [N]
    refine wl_alloc H rfl rfl zv65 ?_
    clear H; intro b5 w19 hnb5 H; dsimp only [Value.cells] at H
    simp only [N]
    simp only [enc_replicate] at H
    refine wl_storeW H 0 rfl rfl rfl rfl (vs := (enc (playF p crow1).1).toArray) rfl (fun v hv => enc_one v (by simpa using hv)) (by first | (rw [sz65]; congr 1; done) | (rw [sz65]; congr 1; first | omega | (simp [-List.reduceReplicate]; done) | (simp [-List.reduceReplicate]; omega) | (simp [*, -List.reduceReplicate]; done) | (simp [*, -List.reduceReplicate]; omega))) (by first | omega | (simp [-List.reduceReplicate]; done) | (simp [-List.reduceReplicate]; omega) | (simp [*, -List.reduceReplicate]; done) | (simp [*, -List.reduceReplicate]; omega)) ?_
    clear H; intro w20 H; simp only [M] at H
    simp only [N]
    refine wl_run rfl (rp_assign rfl (v := (⟨x2_.1, x2_.2, (playF p crow1).2.1⟩ : Sl Int).val) rfl) ?_
    simp only [N]
    refine wl_run rfl (rp_assign rfl (v := iv (playF p crow1).2.2) rfl) ?_
    simp only [N]
    refine wpList_nil ?_
    refine wp_seq ?_
    refine wp_region_own H (by kernel_rfl) (by kernel_rfl) ?_
    refine wq_run rfl (fun w H => rp_move rfl (v := (⟨xd29_.1, xd29_.2, (playF p (picks.l.take (min picks.l.length 60))).2.1⟩ : Sl Int).val) rfl) ?_
    simp only [N]
    refine wq_run rfl (fun w H => rp_len_sl (s := (⟨xd29_.1, xd29_.2, (playF p (picks.l.take (min picks.l.length 60))).2.1⟩ : Sl Int)) Tryz.underlying44 rfl) ?_
    simp only [N]
    refine wq_run rfl (fun w H => rp_move rfl (v := iv ((b10 : Nat) : Int)) rfl) ?_
    simp only [N]
    refine wq_run rfl (fun w H => rp_int_leq rfl (((playF p (picks.l.take (min picks.l.length 60))).2.1.length : Nat) : Int) ((b10 : Nat) : Int) rfl rfl) ?_
    simp only [N]
    refine wq_run rfl (fun w H => rp_move rfl (v := .bool (decide ((((playF p (picks.l.take (min picks.l.length 60))).2.1.length : Nat) : Int) ≤ ((b10 : Nat) : Int)))) rfl) ?_
    simp only [N]
    refine wq_g (wn_t rfl rfl) (v := (⟨fz1.1, fz1.2, crow1⟩ : Sl UInt8).val) (fun hg w H => rp_move rfl (v := (⟨fz1.1, fz1.2, crow1⟩ : Sl UInt8).val) rfl) ?_
    simp only [N]
    refine wq_g (wn_t rfl rfl) (v := iv ((crow1.length : Nat) : Int)) (fun hg w H => by have x49 : (((playF p (picks.l.take (min picks.l.length 60))).2.1.length : Nat) : Int) ≤ ((b10 : Nat) : Int) := (by simpa using hg); exact (by simp only [gv_t hg]; exact rp_len_sl (s := (⟨fz1.1, fz1.2, crow1⟩ : Sl UInt8)) Tryz.underlying23 rfl)) ?_
    simp only [N]
    refine wq_g (wn_t rfl rfl) (v := (⟨xd29_.1, xd29_.2, (playF p (picks.l.take (min picks.l.length 60))).2.1⟩ : Sl Int).val) (fun hg w H => rp_move rfl (v := (⟨xd29_.1, xd29_.2, (playF p (picks.l.take (min picks.l.length 60))).2.1⟩ : Sl Int).val) rfl) ?_
    simp only [N]
    refine wq_g (wn_t rfl rfl) (v := iv (((playF p (picks.l.take (min picks.l.length 60))).2.1.length : Nat) : Int)) (fun hg w H => by have x51 : (((playF p (picks.l.take (min picks.l.length 60))).2.1.length : Nat) : Int) ≤ ((b10 : Nat) : Int) := (by simpa using hg); exact (by simp only [gv_t hg]; exact rp_len_sl (s := (⟨xd29_.1, xd29_.2, (playF p (picks.l.take (min picks.l.length 60))).2.1⟩ : Sl Int)) Tryz.underlying44 rfl)) ?_
    simp only [N]
    refine wq_g (wn_t rfl rfl) (v := .bool (((crow1.length : Nat) : Int) == (((playF p (picks.l.take (min picks.l.length 60))).2.1.length : Nat) : Int))) (fun hg w H => by have x52 : (((playF p (picks.l.take (min picks.l.length 60))).2.1.length : Nat) : Int) ≤ ((b10 : Nat) : Int) := (by simpa using hg); exact (by simp only [gv_t hg]; exact rp_int_eql rfl ((crow1.length : Nat) : Int) (((playF p (picks.l.take (min picks.l.length 60))).2.1.length : Nat) : Int) rfl rfl)) ?_
    simp only [N]
    refine wq_run rfl (fun w H => rp_pickA rfl (p := (decide ((((playF p (picks.l.take (min picks.l.length 60))).2.1.length : Nat) : Int) ≤ ((b10 : Nat) : Int)))) (q := (((crow1.length : Nat) : Int) == (((playF p (picks.l.take (min picks.l.length 60))).2.1.length : Nat) : Int))) rfl rfl rfl) ?_
    simp only [N]
    refine wq_run rfl (fun w H => rp_move rfl (v := .bool ((decide ((((playF p (picks.l.take (min picks.l.length 60))).2.1.length : Nat) : Int) ≤ ((b10 : Nat) : Int))) && (((crow1.length : Nat) : Int) == (((playF p (picks.l.take (min picks.l.length 60))).2.1.length : Nat) : Int)))) rfl) ?_
    simp only [N]
    refine wq_g (wn_t rfl rfl) (v := .agg (p.cells).toArray) (fun hg w H => rp_loadN H 3 rfl rfl rfl Tryz.underlying29 rfl sz29 (Nat.le_of_ble_eq_true rfl) (cs' := p.cells) rfl) ?_
    simp only [N]
    refine wq_g (wn_t rfl rfl) (v := .agg (enc cb2).toArray) (fun hg w H => rp_loadWe H 1 rfl rfl rfl Tryz.underlying41 rfl (by first | exact sz41 | (rw [sz41]; congr 1; first | omega | (simp [-List.reduceReplicate]; done) | (simp [-List.reduceReplicate]; omega) | (simp [*, -List.reduceReplicate]; done) | (simp [*, -List.reduceReplicate]; omega))) rfl) ?_
    simp only [N]
    refine wq_gE (wn_t rfl rfl) (fun hg => fun w => by simp only [gv_t hg]; exact rc_go Tryz.func29 (by kernel_rfl) rfl w) (v := .bool (overF p cb2)) (fun hg w H => by have x57 : (((playF p (picks.l.take (min picks.l.length 60))).2.1.length : Nat) : Int) ≤ ((b10 : Nat) : Int) := (by simpa using (andl hg)); have x58 : ((crow1.length : Nat) : Int) = (((playF p (picks.l.take (min picks.l.length 60))).2.1.length : Nat) : Int) := (by simpa using (andr hg)); exact (overF_spec p cb2 (by first | omega | (simp [-List.reduceReplicate]; done) | (simp [-List.reduceReplicate]; omega) | (simp [*, -List.reduceReplicate]; done) | (simp [*, -List.reduceReplicate]; omega)) _ (H.ro_at 4 rfl) (H.ro_at 6 rfl))) ?_
    simp only [N]
    refine wq_run rfl (fun w H => rp_pickA rfl (p := ((decide ((((playF p (picks.l.take (min picks.l.length 60))).2.1.length : Nat) : Int) ≤ ((b10 : Nat) : Int))) && (((crow1.length : Nat) : Int) == (((playF p (picks.l.take (min picks.l.length 60))).2.1.length : Nat) : Int)))) (q := (overF p cb2)) rfl rfl rfl) ?_
    simp only [N]
    refine wq_run rfl (fun w H => rp_move rfl (v := .bool (((decide ((((playF p (picks.l.take (min picks.l.length 60))).2.1.length : Nat) : Int) ≤ ((b10 : Nat) : Int))) && (((crow1.length : Nat) : Int) == (((playF p (picks.l.take (min picks.l.length 60))).2.1.length : Nat) : Int))) && (overF p cb2))) rfl) ?_
    simp only [N]
    refine wq_g (wn_t rfl rfl) (v := .agg (enc cb2).toArray) (fun hg w H => rp_loadWe H 1 rfl rfl rfl Tryz.underlying41 rfl (by first | exact sz41 | (rw [sz41]; congr 1; first | omega | (simp [-List.reduceReplicate]; done) | (simp [-List.reduceReplicate]; omega) | (simp [*, -List.reduceReplicate]; done) | (simp [*, -List.reduceReplicate]; omega))) rfl) ?_
    simp only [N]
    refine wq_gE (wn_t rfl rfl) (fun hg => fun w => by simp only [gv_t hg]; exact rc_go Tryz.func30 (by kernel_rfl) rfl w) (v := .agg (enc (finalF cb2)).toArray) (fun hg w H => by have x61 : (((playF p (picks.l.take (min picks.l.length 60))).2.1.length : Nat) : Int) ≤ ((b10 : Nat) : Int) := (by simpa using (andl (andl hg))); have x62 : ((crow1.length : Nat) : Int) = (((playF p (picks.l.take (min picks.l.length 60))).2.1.length : Nat) : Int) := (by simpa using (andr (andl hg))); exact (finalF_spec cb2 (by first | omega | (simp [-List.reduceReplicate]; done) | (simp [-List.reduceReplicate]; omega) | (simp [*, -List.reduceReplicate]; done) | (simp [*, -List.reduceReplicate]; omega)) _ )) ?_
    simp only [N]
    refine wq_g (wn_t rfl rfl) (v := .agg (enc (playF p (picks.l.take (min picks.l.length 60))).1).toArray) (fun hg w H => rp_loadWe H 2 rfl rfl rfl Tryz.underlying65 rfl (by first | exact sz65 | (rw [sz65]; congr 1; first | omega | (simp [-List.reduceReplicate]; done) | (simp [-List.reduceReplicate]; omega) | (simp [*, -List.reduceReplicate]; done) | (simp [*, -List.reduceReplicate]; omega))) rfl) ?_
    simp only [N]
    refine wq_g (wn_t rfl rfl) (v := .bool (decide ((finalF cb2) = (playF p (picks.l.take (min picks.l.length 60))).1))) (fun hg w H => by have x65 : (((playF p (picks.l.take (min picks.l.length 60))).2.1.length : Nat) : Int) ≤ ((b10 : Nat) : Int) := (by simpa using (andl (andl hg))); have x66 : ((crow1.length : Nat) : Int) = (((playF p (picks.l.take (min picks.l.length 60))).2.1.length : Nat) : Int) := (by simpa using (andr (andl hg))); exact (by simp only [gv_t hg]; exact rp_eql_leafs rfl 6 (by decide) (by kernel_rfl) (by kernel_rfl) (ks := (List.replicate 38 (.int .u8))) (by kernel_rfl) (xs := enc (finalF cb2)) (ys := enc (playF p (picks.l.take (min picks.l.length 60))).1) rfl rfl (formed_enc Tryz.underlying65 rfl sz65 (by first | omega | (simp [-List.reduceReplicate]; done) | (simp [-List.reduceReplicate]; omega) | (simp [*, -List.reduceReplicate]; done) | (simp [*, -List.reduceReplicate]; omega))) (formed_enc Tryz.underlying65 rfl sz65 (by first | omega | (simp [-List.reduceReplicate]; done) | (simp [-List.reduceReplicate]; omega) | (simp [*, -List.reduceReplicate]; done) | (simp [*, -List.reduceReplicate]; omega))) (fits_enc (by first | omega | (simp [-List.reduceReplicate]; done) | (simp [-List.reduceReplicate]; omega) | (simp [*, -List.reduceReplicate]; done) | (simp [*, -List.reduceReplicate]; omega))) (fits_enc (by first | omega | (simp [-List.reduceReplicate]; done) | (simp [-List.reduceReplicate]; omega) | (simp [*, -List.reduceReplicate]; done) | (simp [*, -List.reduceReplicate]; omega))) (r := (decide ((finalF cb2) = (playF p (picks.l.take (min picks.l.length 60))).1))) (by exact enc_iff _ _))) ?_
    simp only [N]
    refine wq_run rfl (fun w H => rp_pickA rfl (p := (((decide ((((playF p (picks.l.take (min picks.l.length 60))).2.1.length : Nat) : Int) ≤ ((b10 : Nat) : Int))) && (((crow1.length : Nat) : Int) == (((playF p (picks.l.take (min picks.l.length 60))).2.1.length : Nat) : Int))) && (overF p cb2))) (q := (decide ((finalF cb2) = (playF p (picks.l.take (min picks.l.length 60))).1))) rfl rfl rfl) ?_
    simp only [N]
    refine wq_run rfl (fun w H => rp_move rfl (v := .bool ((((decide ((((playF p (picks.l.take (min picks.l.length 60))).2.1.length : Nat) : Int) ≤ ((b10 : Nat) : Int))) && (((crow1.length : Nat) : Int) == (((playF p (picks.l.take (min picks.l.length 60))).2.1.length : Nat) : Int))) && (overF p cb2)) && (decide ((finalF cb2) = (playF p (picks.l.take (min picks.l.length 60))).1)))) rfl) ?_
    simp only [N]
    refine wq_g (wn_t rfl rfl) (v := .agg (enc (playF p crow1).1).toArray) (fun hg w H => rp_loadWe H 0 rfl rfl rfl Tryz.underlying65 rfl (by first | exact sz65 | (rw [sz65]; congr 1; first | omega | (simp [-List.reduceReplicate]; done) | (simp [-List.reduceReplicate]; omega) | (simp [*, -List.reduceReplicate]; done) | (simp [*, -List.reduceReplicate]; omega))) rfl) ?_
    simp only [N]
    refine wq_g (wn_t rfl rfl) (v := .agg (enc (playF p (picks.l.take (min picks.l.length 60))).1).toArray) (fun hg w H => rp_loadWe H 2 rfl rfl rfl Tryz.underlying65 rfl (by first | exact sz65 | (rw [sz65]; congr 1; first | omega | (simp [-List.reduceReplicate]; done) | (simp [-List.reduceReplicate]; omega) | (simp [*, -List.reduceReplicate]; done) | (simp [*, -List.reduceReplicate]; omega))) rfl) ?_
    simp only [N]
    refine wq_g (wn_t rfl rfl) (v := .bool (decide ((playF p crow1).1 = (playF p (picks.l.take (min picks.l.length 60))).1))) (fun hg w H => by have x71 : (((playF p (picks.l.take (min picks.l.length 60))).2.1.length : Nat) : Int) ≤ ((b10 : Nat) : Int) := (by simpa using (andl (andl (andl hg)))); have x72 : ((crow1.length : Nat) : Int) = (((playF p (picks.l.take (min picks.l.length 60))).2.1.length : Nat) : Int) := (by simpa using (andr (andl (andl hg)))); exact (by simp only [gv_t hg]; exact rp_eql_leafs rfl 6 (by decide) (by kernel_rfl) (by kernel_rfl) (ks := (List.replicate 38 (.int .u8))) (by kernel_rfl) (xs := enc (playF p crow1).1) (ys := enc (playF p (picks.l.take (min picks.l.length 60))).1) rfl rfl (formed_enc Tryz.underlying65 rfl sz65 (by first | omega | (simp [-List.reduceReplicate]; done) | (simp [-List.reduceReplicate]; omega) | (simp [*, -List.reduceReplicate]; done) | (simp [*, -List.reduceReplicate]; omega))) (formed_enc Tryz.underlying65 rfl sz65 (by first | omega | (simp [-List.reduceReplicate]; done) | (simp [-List.reduceReplicate]; omega) | (simp [*, -List.reduceReplicate]; done) | (simp [*, -List.reduceReplicate]; omega))) (fits_enc (by first | omega | (simp [-List.reduceReplicate]; done) | (simp [-List.reduceReplicate]; omega) | (simp [*, -List.reduceReplicate]; done) | (simp [*, -List.reduceReplicate]; omega))) (fits_enc (by first | omega | (simp [-List.reduceReplicate]; done) | (simp [-List.reduceReplicate]; omega) | (simp [*, -List.reduceReplicate]; done) | (simp [*, -List.reduceReplicate]; omega))) (r := (decide ((playF p crow1).1 = (playF p (picks.l.take (min picks.l.length 60))).1))) (by exact enc_iff _ _))) ?_
    simp only [N]
    refine wq_run rfl (fun w H => rp_pickA rfl (p := ((((decide ((((playF p (picks.l.take (min picks.l.length 60))).2.1.length : Nat) : Int) ≤ ((b10 : Nat) : Int))) && (((crow1.length : Nat) : Int) == (((playF p (picks.l.take (min picks.l.length 60))).2.1.length : Nat) : Int))) && (overF p cb2)) && (decide ((finalF cb2) = (playF p (picks.l.take (min picks.l.length 60))).1)))) (q := (decide ((playF p crow1).1 = (playF p (picks.l.take (min picks.l.length 60))).1))) rfl rfl rfl) ?_
    simp only [N]
    refine wq_run rfl (fun w H => rp_move rfl (v := .bool (((((decide ((((playF p (picks.l.take (min picks.l.length 60))).2.1.length : Nat) : Int) ≤ ((b10 : Nat) : Int))) && (((crow1.length : Nat) : Int) == (((playF p (picks.l.take (min picks.l.length 60))).2.1.length : Nat) : Int))) && (overF p cb2)) && (decide ((finalF cb2) = (playF p (picks.l.take (min picks.l.length 60))).1))) && (decide ((playF p crow1).1 = (playF p (picks.l.take (min picks.l.length 60))).1)))) rfl) ?_
    simp only [N]
    refine wq_g (wn_t rfl rfl) (v := (⟨x2_.1, x2_.2, (playF p crow1).2.1⟩ : Sl Int).val) (fun hg w H => rp_move rfl (v := (⟨x2_.1, x2_.2, (playF p crow1).2.1⟩ : Sl Int).val) rfl) ?_
    simp only [N]
    refine wq_g (wn_t rfl rfl) (v := (⟨xd29_.1, xd29_.2, (playF p (picks.l.take (min picks.l.length 60))).2.1⟩ : Sl Int).val) (fun hg w H => rp_move rfl (v := (⟨xd29_.1, xd29_.2, (playF p (picks.l.take (min picks.l.length 60))).2.1⟩ : Sl Int).val) rfl) ?_
    simp only [N]
    refine wq_gE (wn_t rfl rfl) (fun hg => fun w => by simp only [gv_t hg]; exact rc_go Tryz.func28 (by kernel_rfl) rfl w) (v := .bool (intsF ((playF p crow1).2.1) ((playF p (picks.l.take (min picks.l.length 60))).2.1))) (fun hg w H => by have x77 : (((playF p (picks.l.take (min picks.l.length 60))).2.1.length : Nat) : Int) ≤ ((b10 : Nat) : Int) := (by simpa using (andl (andl (andl (andl hg))))); have x78 : ((crow1.length : Nat) : Int) = (((playF p (picks.l.take (min picks.l.length 60))).2.1.length : Nat) : Int) := (by simpa using (andr (andl (andl (andl hg))))); exact (intsF_spec (⟨x2_.1, x2_.2, (playF p crow1).2.1⟩ : Sl Int) (⟨xd29_.1, xd29_.2, (playF p (picks.l.take (min picks.l.length 60))).2.1⟩ : Sl Int) _ ((FreshAt.now ((H.ro_at 0 rfl)))) (((H.ro_at 3 rfl))))) ?_
    simp only [N]
    refine wq_run rfl (fun w H => rp_pickA rfl (p := (((((decide ((((playF p (picks.l.take (min picks.l.length 60))).2.1.length : Nat) : Int) ≤ ((b10 : Nat) : Int))) && (((crow1.length : Nat) : Int) == (((playF p (picks.l.take (min picks.l.length 60))).2.1.length : Nat) : Int))) && (overF p cb2)) && (decide ((finalF cb2) = (playF p (picks.l.take (min picks.l.length 60))).1))) && (decide ((playF p crow1).1 = (playF p (picks.l.take (min picks.l.length 60))).1)))) (q := (intsF ((playF p crow1).2.1) ((playF p (picks.l.take (min picks.l.length 60))).2.1))) rfl rfl rfl) ?_
    simp only [N]
    refine wq_run rfl (fun w H => rp_move rfl (v := .bool ((((((decide ((((playF p (picks.l.take (min picks.l.length 60))).2.1.length : Nat) : Int) ≤ ((b10 : Nat) : Int))) && (((crow1.length : Nat) : Int) == (((playF p (picks.l.take (min picks.l.length 60))).2.1.length : Nat) : Int))) && (overF p cb2)) && (decide ((finalF cb2) = (playF p (picks.l.take (min picks.l.length 60))).1))) && (decide ((playF p crow1).1 = (playF p (picks.l.take (min picks.l.length 60))).1))) && (intsF ((playF p crow1).2.1) ((playF p (picks.l.take (min picks.l.length 60))).2.1)))) rfl) ?_
    simp only [N]
    refine wq_gE (wn_t rfl rfl) (fun hg => rc_go Tryz.func13 (by kernel_rfl) rfl) (v := .bool true) (fun hg w H => by have x79 : (((playF p (picks.l.take (min picks.l.length 60))).2.1.length : Nat) : Int) ≤ ((b10 : Nat) : Int) := (by simpa using (andl (andl (andl (andl (andl hg)))))); have x80 : ((crow1.length : Nat) : Int) = (((playF p (picks.l.take (min picks.l.length 60))).2.1.length : Nat) : Int) := (by simpa using (andr (andl (andl (andl (andl hg)))))); exact (awake_spec _ (H.ro_at 6 rfl))) ?_
    simp only [N]
    refine wq_run rfl (fun w H => rp_pickA rfl (p := ((((((decide ((((playF p (picks.l.take (min picks.l.length 60))).2.1.length : Nat) : Int) ≤ ((b10 : Nat) : Int))) && (((crow1.length : Nat) : Int) == (((playF p (picks.l.take (min picks.l.length 60))).2.1.length : Nat) : Int))) && (overF p cb2)) && (decide ((finalF cb2) = (playF p (picks.l.take (min picks.l.length 60))).1))) && (decide ((playF p crow1).1 = (playF p (picks.l.take (min picks.l.length 60))).1))) && (intsF ((playF p crow1).2.1) ((playF p (picks.l.take (min picks.l.length 60))).2.1)))) (q := true) rfl rfl rfl) ?_
    simp only [N]
    refine wq_run rfl (fun w H => rp_assign rfl (v := .bool (((((((decide ((((playF p (picks.l.take (min picks.l.length 60))).2.1.length : Nat) : Int) ≤ ((b10 : Nat) : Int))) && (((crow1.length : Nat) : Int) == (((playF p (picks.l.take (min picks.l.length 60))).2.1.length : Nat) : Int))) && (overF p cb2)) && (decide ((finalF cb2) = (playF p (picks.l.take (min picks.l.length 60))).1))) && (decide ((playF p crow1).1 = (playF p (picks.l.take (min picks.l.length 60))).1))) && (intsF ((playF p crow1).2.1) ((playF p (picks.l.take (min picks.l.length 60))).2.1))) && true)) rfl) ?_
    simp only [N]
    refine wq_nil ?_
    clear H; intro w21 H
    refine wp_ret ?_
    try simp only [Exit.inBlock, Exit.then, cutP]
    refine bodyPost_ret (results1 rfl (rv_tmp rfl)) rfl ?_
    have hF : (playsL p picks.l) = (((((((decide ((((playF p (picks.l.take (min picks.l.length 60))).2.1.length : Nat) : Int) ≤ ((b10 : Nat) : Int))) && (((crow1.length : Nat) : Int) == (((playF p (picks.l.take (min picks.l.length 60))).2.1.length : Nat) : Int))) && (overF p cb2)) && (decide ((finalF cb2) = (playF p (picks.l.take (min picks.l.length 60))).1))) && (decide ((playF p crow1).1 = (playF p (picks.l.take (min picks.l.length 60))).1))) && (intsF ((playF p crow1).2.1) ((playF p (picks.l.take (min picks.l.length 60))).2.1))) && true) := hFc2
    rw [hF]
    exact ⟨rfl, H.ext⟩

end Go.Proofs.YtpnaooajmdildaaGreatDoor
