/- Walks, printed by a program of this repository (wip/tool). -/
import Derived.Test.YtimonjemjhecoaaGreatDoorLB2
import Derived.Test.YtimonjemjhecoaaGreatDoorBRn
import Derived.Test.YtimonjemjhecoaaGreatDoorBQ
namespace Go.Proofs.YtimonjemjhecoaaGreatDoor
open Go.RowKit
open Go
attribute [local irreducible] wpList wpQuiet wpX Code.wp
set_option maxHeartbeats 1000000
set_option maxRecDepth 100000
set_option linter.unusedSimpArgs false
set_option linter.unusedVariables false

def fencedF_b (xrb : Ins) (rb : (List Ins) → Bool) : (List Ins) → Bool := fun s_ => match s_ with | brow2 => bif (xrb.op == (8 : UInt8)) then (rb brow2) else (bif (xrb.op == (2 : UInt8)) then (rb (brow2 ++ [xrb, (⟨(7 : UInt8), (0 : UInt8), (0 : UInt8), ⟨false, (0 : UInt8)⟩, ⟨false, (0 : UInt8)⟩, (0 : UInt8), (3 : UInt8), (0 : UInt8)⟩ : Ins)])) else (rb (brow2 ++ [xrb])))
def fencedF_bk (arow1 : List (List Ins)) (ra : (List (List Ins)) → Bool) : (List Ins) → Bool := fun s_ => match s_ with | brow2 => ra (arow1 ++ [brow2])
def fencedF_a (xra : (Sl Ins)) (ra : (List (List Ins)) → Bool) : (List (List Ins)) → Bool := fun s_ => match s_ with | arow1 => loopL fencedF_b (fencedF_bk arow1 ra) (xra.l.take (min xra.l.length 6)) ([] : List Ins)
def fencedF_v128 (f96 : Nat) (v116 : (List UInt8) × Int) (rf : (Nat × (List UInt8) × (List UInt8)) → Bool) (v128 : (List UInt8) × Int) : Bool :=
  bif (v128.2 != (0 : Int)) then false else (rf ((f96 + 1), v128.1, v116.1))
def fencedF_v116 (p : Prog) (picks : List UInt8) (arow1 : List (List Ins)) (c13 : UInt8) (f96 : Nat) (fb11 : List UInt8) (v105 : Bool) (rf : (Nat × (List UInt8) × (List UInt8)) → Bool) (v116 : (List UInt8) × Int) : Bool :=
  bif (v116.2 != (0 : Int)) then false else (bif (v105 && (!((bPlayF (progT p arow1) c13 (picks.take (min picks.length 100))).2.1.getD f96 default).drain)) then (rf ((f96 + 1), fb11, v116.1)) else (fencedF_v128 f96 v116 rf (moveF (progT p arow1) fb11 ((((bPlayF (progT p arow1) c13 (picks.take (min picks.length 100))).2.1.getD f96 default).thread).toNat : Int))))
def fencedF_v105 (p : Prog) (picks : List UInt8) (arow1 : List (List Ins)) (c13 : UInt8) (f96 : Nat) (fb11 : List UInt8) (fb10 : List UInt8) (rf : (Nat × (List UInt8) × (List UInt8)) → Bool) (v105 : Bool) : Bool :=
  fencedF_v116 p picks arow1 c13 f96 fb11 v105 rf (bMoveF (progT p arow1) c13 fb10 ((bPlayF (progT p arow1) c13 (picks.take (min picks.length 100))).2.1.getD f96 default))
def fencedF_f (p : Prog) (picks : List UInt8) (arow1 : List (List Ins)) (c13 : UInt8) (xrf : Pass) (rf : (Nat × (List UInt8) × (List UInt8)) → Bool) : (Nat × (List UInt8) × (List UInt8)) → Bool := fun s_ => match s_ with | (f96, fb11, fb10) => fencedF_v105 p picks arow1 c13 f96 fb11 fb10 rf (storeF (progT p arow1) fb10 ((xrf.thread).toNat : Int))
def fencedF_v136 (p : Prog) (picks : List UInt8) (arow1 : List (List Ins)) (c13 : UInt8) (fb11 : List UInt8) (v136 : Bool) : Bool :=
  ((v136 && (decide ((finalF fb11) = (bPlayF (progT p arow1) c13 (picks.take (min picks.length 100))).1))) && true)
def fencedF_fk (p : Prog) (picks : List UInt8) (arow1 : List (List Ins)) (c13 : UInt8) : (Nat × (List UInt8) × (List UInt8)) → Bool := fun s_ => match s_ with | (f96, fb11, fb10) => fencedF_v136 p picks arow1 c13 fb11 (overF (progT p arow1) fb11)
def fencedF_v84 (p : Prog) (picks : List UInt8) (arow1 : List (List Ins)) (c13 : UInt8) (v84 : (List UInt8) × Int) : Bool :=
  bif (((bPlayF (progT p arow1) c13 (picks.take (min picks.length 100))).2.2 != (0 : Int)) || (v84.2 != (0 : Int))) then false else (loopL (fencedF_f p picks arow1 c13) (fencedF_fk p picks arow1 c13) ((bPlayF (progT p arow1) c13 (picks.take (min picks.length 100))).2.1) (0, v84.1, v84.1))
def fencedF_d (p : Prog) (picks : List UInt8) (arow1 : List (List Ins)) (c13 : UInt8) : Bool :=
  fencedF_v84 p picks arow1 c13 (startF (progT p arow1))
def fencedF_c (p : Prog) (picks : List UInt8) (arow1 : List (List Ins)) (c13 : UInt8) : Bool :=
  fencedF_d p picks arow1 c13
def fencedF_ak (p : Prog) (pso : Bool) (picks : List UInt8) : (List (List Ins)) → Bool := fun s_ => match s_ with | arow1 => bif pso then (fencedF_c p picks arow1 (3 : UInt8)) else (fencedF_c p picks arow1 (2 : UInt8))
def fencedF (p : Prog) (pso : Bool) (picks : List UInt8) : Bool :=
  bif ((rightF p) != (0 : Int)) then true else (loopL fencedF_a (fencedF_ak p pso picks) p.threads.l ([] : List (List Ins)))


theorem fencedF_spec (p : Prog) (pso : Bool) (picks : Sl UInt8) (w : World) (hp : (IsProg p) w) (hpicks : (SlIn 1 eByte picks) w) (hg_ : Glob w) :
    Calls Tryz.prog 7 #[.agg p.cells.toArray, .bool pso, picks.val] w fun e w' => e = .returned (.bool (fencedF p pso picks.l)) ∧ Ext w w' := by
 have H := Own.start_ro w [IsProg p, SlIn 1 eByte picks, Glob] (List.forall_mem_cons.2 ⟨fun w' hw => hp.keep hw, List.forall_mem_cons.2 ⟨fun w' hw => hpicks.keep hw, List.forall_mem_cons.2 ⟨fun w' hw => hg_.keep hw, fun _ h => by cases h⟩⟩⟩)
 have hcp1 := hp.locs.2.2
 have hcp2 := hp.init.2.2
 have hcp3 := hp.threads.2.2
 have hcpicks := hpicks.2.2
 go_enter Tryz.func7, Tryz.ntmps7
 refine wp_seq ?_; refine wp_region_lit ?_; refine wl_box H rfl rfl (v := .agg (p.cells).toArray) rfl ?_
 clear H; intro b1 w1 hnb1 H; dsimp only [Value.cells] at H
 simp only [N]
 refine wasg (.bool false) ?_; simp only [N]
 refine wpList_nil ?_
 refine wp_seq ?_; refine wp_seq ?_; refine wp_region_lit ?_; refine wr (rp_loadN H 0 rfl rfl rfl Tryz.underlying29 rfl sz29 (Nat.le_of_ble_eq_true rfl) (cs' := p.cells) rfl) ?_; simp only [N]
 refine wl_callE H rfl (rc_go Tryz.func11 (by kernel_rfl) rfl) (rightF_spec p _ (H.ro_at 0 rfl) (H.ro_at 2 rfl)) ?_
 clear H; intro w2 H
 simp only [N]
 refine wr (rp_int_neq rfl (rightF p) (0 : Int) rfl rfl) ?_; simp only [N]
 refine wpList_nil ?_
 refine wp_cond_split rfl (fun hc1 => ?_) (fun hc1 => ?_)
 · --T 1
  have hc1N1 : (rightF p) ≠ (0 : Int) := (by simpa using hc1)
  refine wp_seq ?_; refine wp_region_lit ?_; refine wl_callE H rfl (rc_go Tryz.func12 (by kernel_rfl) rfl) (awakeB_spec' _ (H.ro_at 2 rfl)) ?_
  clear H; intro w3 H
  simp only [N]
  refine wasg (.bool true) ?_; simp only [N]
  refine wpList_nil ?_
  refine wp_ret ?_
  try simp only [Exit.inBlock, Exit.then, cutP]
  refine bodyPost_ret (results1 rfl (rv_tmp rfl)) rfl ?_
  have hF : (fencedF p pso picks.l) = true := bt hc1
  rw [hF]
  exact ⟨rfl, H.ext⟩
 · --F 1
  have hc1N2 : (rightF p) = (0 : Int) := (by simpa using hc1)
  have hrs : rightF p = 0 := by simpa using hc1
  have hok := right_ok hrs
  have hth4 := hok.threads.2
  refine wp_skip ?_
  refine wp_seq ?_; refine wp_region_lit ?_; refine wr (rp_loadN H 0 rfl rfl rfl Tryz.underlying29 rfl sz29 (Nat.le_of_ble_eq_true rfl) (cs' := p.cells) rfl) ?_; simp only [N]
  refine wl_alloc H rfl rfl zv29 ?_
  clear H; intro b2 w4 hnb2 H; dsimp only [Value.cells] at H
  simp only [N]
  refine wl_storeV H 0 rfl rfl rfl rfl ((p.cells).toArray) rfl (Prog.cells_one _) sz29 ?_
  clear H; intro w5 H; simp only [M] at H
  simp only [N]
  refine wpList_nil ?_
  refine wp_seq ?_; refine wp_region_lit ?_; refine wr (rp_fieldAddr rfl Tryz.underlying29 rfl 3 rfl sz24 rfl 3 rfl) ?_; simp only [N]
  refine wl_store1 H 0 rfl rfl rfl (cs := #[.string p.name, p.locs.val, p.init.val, p.threads.val, bv p.ask, bv p.cond.kind, bv p.cond.thread, bv p.cond.n, bv p.cond.valu, p.cond.kids.val]) rfl (v := (.slice none 0 0)) rfl rfl sz24 (Nat.le_of_ble_eq_true rfl) ?_
  clear H; intro w6 H; simp only [Ms] at H
  simp only [N]
  refine wpList_nil ?_
  refine wp_seq ?_; refine wp_seq ?_; refine wp_region_lit ?_; refine wr (rp_fieldAddr rfl Tryz.underlying29 rfl 3 rfl sz24 rfl 3 rfl) ?_; simp only [N]
  refine wr (rp_load1 H 1 rfl rfl rfl Tryz.underlying24 rfl (v := p.threads.val) rfl) ?_; simp only [N]
  refine wr (rp_len_sl (s := p.threads) Tryz.underlying24 rfl) ?_; simp only [N]
  refine wmv (iv (0 : Int)) ?_; simp only [N]
  refine wpList_nil ?_
  refine wp_block ?_
  have H := H.rowNilT eSlI 59 1
  replace H := H.infer (fun w => ∀ x ∈ ([] : List (Sl Ins)), SlIn 10 Ins.cells x w) (fun _ _ x hx => by cases hx)
  refine wp_loopX (fun m' a' w' => ∃ (a32 : Nat) (arow1 : List (List Ins)) (avrow1 : Value) (arow1h : List (Sl Ins)), a' = ⟨#[(tq a' 0), .bool pso, picks.val, (tq a' 3), undef, undef, (tq a' 6), .pointer (some ⟨b2, 0, none⟩), undef, (tq a' 9), (tq a' 10), undef, (tq a' 12), undef, undef, undef, undef, undef, undef, undef, undef, undef, undef, (tq a' 23), (tq a' 24), (tq a' 25), undef, (tq a' 27), (tq a' 28), (tq a' 29), p.threads.val, iv ((p.threads.l.length : Nat) : Int), iv ((a32 : Nat) : Int), (tq a' 33), (tq a' 34), (tq a' 35), (tq a' 36), (tq a' 37), (tq a' 38), (tq a' 39), (tq a' 40), (tq a' 41), (tq a' 42), (tq a' 43), (tq a' 44), (tq a' 45), (tq a' 46), (tq a' 47), (tq a' 48), (tq a' 49), (tq a' 50), (tq a' 51), (tq a' 52), (tq a' 53), (tq a' 54), (tq a' 55), (tq a' 56), (tq a' 57), (tq a' 58), (tq a' 59), (tq a' 60), (tq a' 61), (tq a' 62), (tq a' 63), (tq a' 64), (tq a' 65), (tq a' 66), (tq a' 67), (tq a' 68), undef, undef, undef, undef, undef, undef, undef, undef, undef, undef, undef, undef, undef, undef, undef, undef, undef, undef, undef, undef, undef, undef, undef, undef, undef, undef, undef, undef, undef, undef, undef, undef, undef, undef, undef, undef, undef, undef, undef, undef, undef, undef, undef, undef, undef, undef, undef, undef, undef, undef, undef, undef, undef, undef, undef, undef, undef, undef, undef, undef, undef, undef, undef, undef, undef, undef, undef, undef, undef, undef, undef, undef, undef, undef, undef, undef, undef], []⟩ ∧ Own w [] [fun w => ∀ x ∈ arow1h, SlIn 10 Ins.cells x w, IsProg p, SlIn 1 eByte picks, Glob] [.row avrow1 59 1 arow1h.length (arow1h.flatMap eSlI), .blk b2 (.cells #[.string p.name, p.locs.val, p.init.val, avrow1, bv p.ask, bv p.cond.kind, bv p.cond.thread, bv p.cond.n, bv p.cond.valu, p.cond.kids.val] 29 (0, 0)), .blk b1 (.cells (p.cells).toArray 29 (0, 0))] w' ∧ (arow1h.map Sl.l = arow1) ∧ (a32 ≤ p.threads.l.length) ∧ (arow1h.length ≤ a32) ∧ (fencedF p pso picks.l) = loopL fencedF_a (fencedF_ak p pso picks.l) (p.threads.l.drop a32) arow1 ∧ m' = p.threads.l.length - a32) _ ⟨0, ([] : List (List Ins)), (.slice none 0 0), ([] : List (Sl Ins)), (by kernel_rfl), H, (by rfl), (by omega), (by first | omega | (simp; done) | (simp; omega)), bf hc1, rfl⟩ ?_
  clear H
  rintro _ a_ w7 ⟨a32, arow1, avrow1, arow1h, ha_, H, hia0, hia1, hia2, hFa, rfl⟩
  obtain ⟨ua, hu_⟩ : ∃ ua : Nat → Value, a_ = ⟨#[(ua 0), .bool pso, picks.val, (ua 3), undef, undef, (ua 6), .pointer (some ⟨b2, 0, none⟩), undef, (ua 9), (ua 10), undef, (ua 12), undef, undef, undef, undef, undef, undef, undef, undef, undef, undef, (ua 23), (ua 24), (ua 25), undef, (ua 27), (ua 28), (ua 29), p.threads.val, iv ((p.threads.l.length : Nat) : Int), iv ((a32 : Nat) : Int), (ua 33), (ua 34), (ua 35), (ua 36), (ua 37), (ua 38), (ua 39), (ua 40), (ua 41), (ua 42), (ua 43), (ua 44), (ua 45), (ua 46), (ua 47), (ua 48), (ua 49), (ua 50), (ua 51), (ua 52), (ua 53), (ua 54), (ua 55), (ua 56), (ua 57), (ua 58), (ua 59), (ua 60), (ua 61), (ua 62), (ua 63), (ua 64), (ua 65), (ua 66), (ua 67), (ua 68), undef, undef, undef, undef, undef, undef, undef, undef, undef, undef, undef, undef, undef, undef, undef, undef, undef, undef, undef, undef, undef, undef, undef, undef, undef, undef, undef, undef, undef, undef, undef, undef, undef, undef, undef, undef, undef, undef, undef, undef, undef, undef, undef, undef, undef, undef, undef, undef, undef, undef, undef, undef, undef, undef, undef, undef, undef, undef, undef, undef, undef, undef, undef, undef, undef, undef, undef, undef, undef, undef, undef, undef, undef, undef, undef, undef, undef], []⟩ := ⟨fun n => tq a_ n, ha_⟩
  clear ha_; subst hu_
  refine wp_seq ?_; refine wp_region_lit ?_; refine wr (rp_int_lss rfl ((a32 : Nat) : Int) ((p.threads.l.length : Nat) : Int) rfl rfl) ?_; simp only [N]
  refine wpList_nil ?_
  refine wp_seq ?_; refine wp_cond_split rfl (fun hc2 => ?_) (fun hc2 => ?_)
  · --T 2
   have hc2N3 : ((a32 : Nat) : Int) < ((p.threads.l.length : Nat) : Int) := (by simpa using hc2)
   obtain ⟨ra, hra⟩ : ∃ r, r = loopL fencedF_a (fencedF_ak p pso picks.l) (p.threads.l.drop (a32 + 1)) := ⟨_, rfl⟩
   have hFa2 := hFa.trans (loopL_step (show a32 < p.threads.l.length by omega))
   rw [← hra] at hFa2
   refine wp_skip ?_
   refine wp_seq ?_; refine wp_block ?_
   refine wp_seq ?_; refine wp_region_lit ?_; refine wr (rp_indexAddr_sl (IsProg.threads (H.ro_at 1 rfl)) rfl Tryz.underlying24 sz59 rfl a32 rfl (by omega)) ?_; simp only [N]
   refine wr (rp_load1_sl (IsProg.threads (H.ro_at 1 rfl)) a32 (by omega) rfl Tryz.underlying59 rfl 0 rfl (by omega) (v := (p.threads.l.getD a32 default).val) rfl) ?_; simp only [N]
   refine wasg ((p.threads.l.getD a32 default).val) ?_; simp only [N]
   refine wpList_nil ?_
   refine wp_seq ?_; refine wp_region_lit ?_; refine wasg ((.slice none 0 0)) ?_; simp only [N]
   refine wpList_nil ?_
   refine wp_seq ?_; refine wp_seq ?_; refine wp_region_lit ?_; refine wmv ((p.threads.l.getD a32 default).val) ?_; simp only [N]
   refine wmv ((p.threads.l.getD a32 default).val) ?_; simp only [N]
   refine wr (rp_len_sl (s := (p.threads.l.getD a32 default)) Tryz.underlying59 rfl) ?_; simp only [N]
   refine wr (rp_vconv (rp_min2 rfl (((p.threads.l.getD a32 default).l.length : Nat) : Int) (6 : Int) rfl rfl) (congrArg (Value.int .i64) (show min (((p.threads.l.getD a32 default).l.length : Nat) : Int) (6 : Int) = (((min (p.threads.l.getD a32 default).l.length 6) : Nat) : Int) by omega))) ?_; simp only [N]
   have hsl40 : ((p.threads.l.getD a32 default).l.take (min (p.threads.l.getD a32 default).l.length 6)).length ≤ 140737488355328 := by simp only [List.length_take, List.length_drop]; omega
   refine wr (rp_slice_slh (IsProg.ins_at (H.ro_at 1 rfl) (t := a32) (by omega)) rfl Tryz.underlying59 sz58 rfl (min (p.threads.l.getD a32 default).l.length 6) rfl (by omega)) ?_; simp only [N]
   refine wr (rp_len_sl (s := (⟨(p.threads.l.getD a32 default).ad, (p.threads.l.getD a32 default).cap, (p.threads.l.getD a32 default).l.take (min (p.threads.l.getD a32 default).l.length 6)⟩ : Sl Ins)) Tryz.underlying59 rfl) ?_; simp only [N]
   refine wmv (iv (0 : Int)) ?_; simp only [N]
   refine wpList_nil ?_
   refine wp_block ?_
   have H := H.rowNilT Ins.cells 58 10
   refine wp_loopX (fun m' a' w' => ∃ (b42 : Nat) (brow2 : List Ins) (bvrow2 : Value), a' = ⟨#[(ua 0), .bool pso, picks.val, (ua 3), undef, undef, (ua 6), .pointer (some ⟨b2, 0, none⟩), undef, (tq a' 9), bvrow2, undef, (tq a' 12), undef, undef, undef, undef, undef, undef, undef, undef, undef, undef, (ua 23), (ua 24), (ua 25), undef, (ua 27), (ua 28), (ua 29), p.threads.val, iv ((p.threads.l.length : Nat) : Int), iv ((a32 : Nat) : Int), (tq a' 33), (tq a' 34), (tq a' 35), (tq a' 36), (tq a' 37), (tq a' 38), (tq a' 39), (⟨(p.threads.l.getD a32 default).ad, (p.threads.l.getD a32 default).cap, (p.threads.l.getD a32 default).l.take (min (p.threads.l.getD a32 default).l.length 6)⟩ : Sl Ins).val, iv ((((p.threads.l.getD a32 default).l.take (min (p.threads.l.getD a32 default).l.length 6)).length : Nat) : Int), iv ((b42 : Nat) : Int), (tq a' 43), (tq a' 44), (tq a' 45), (tq a' 46), (tq a' 47), (tq a' 48), (tq a' 49), (tq a' 50), (tq a' 51), (tq a' 52), (tq a' 53), (tq a' 54), (tq a' 55), (tq a' 56), (tq a' 57), (tq a' 58), (tq a' 59), (tq a' 60), (tq a' 61), (ua 62), (ua 63), (ua 64), (ua 65), (ua 66), (ua 67), (ua 68), undef, undef, undef, undef, undef, undef, undef, undef, undef, undef, undef, undef, undef, undef, undef, undef, undef, undef, undef, undef, undef, undef, undef, undef, undef, undef, undef, undef, undef, undef, undef, undef, undef, undef, undef, undef, undef, undef, undef, undef, undef, undef, undef, undef, undef, undef, undef, undef, undef, undef, undef, undef, undef, undef, undef, undef, undef, undef, undef, undef, undef, undef, undef, undef, undef, undef, undef, undef, undef, undef, undef, undef, undef, undef, undef, undef, undef], []⟩ ∧ Own w [] [fun w => ∀ x ∈ arow1h, SlIn 10 Ins.cells x w, IsProg p, SlIn 1 eByte picks, Glob] [.row bvrow2 58 10 brow2.length (brow2.flatMap Ins.cells), .row avrow1 59 1 arow1h.length (arow1h.flatMap eSlI), .blk b2 (.cells #[.string p.name, p.locs.val, p.init.val, avrow1, bv p.ask, bv p.cond.kind, bv p.cond.thread, bv p.cond.n, bv p.cond.valu, p.cond.kids.val] 29 (0, 0)), .blk b1 (.cells (p.cells).toArray 29 (0, 0))] w' ∧ (brow2.length ≤ 2 * b42) ∧ (b42 ≤ ((p.threads.l.getD a32 default).l.take (min (p.threads.l.getD a32 default).l.length 6)).length) ∧ (fencedF p pso picks.l) = loopL fencedF_b (fencedF_bk arow1 ra) (((p.threads.l.getD a32 default).l.take (min (p.threads.l.getD a32 default).l.length 6)).drop b42) brow2 ∧ m' = ((p.threads.l.getD a32 default).l.take (min (p.threads.l.getD a32 default).l.length 6)).length - b42) _ ⟨0, ([] : List Ins), (.slice none 0 0), (by kernel_rfl), H, (by simp), (by omega), hFa2, rfl⟩ ?_
   clear H
   rintro _ a_ w8 ⟨b42, brow2, bvrow2, ha_, H, hib0, hib1, hFb, rfl⟩
   obtain ⟨ub, hu_⟩ : ∃ ub : Nat → Value, a_ = ⟨#[(ua 0), .bool pso, picks.val, (ua 3), undef, undef, (ua 6), .pointer (some ⟨b2, 0, none⟩), undef, (ub 9), bvrow2, undef, (ub 12), undef, undef, undef, undef, undef, undef, undef, undef, undef, undef, (ua 23), (ua 24), (ua 25), undef, (ua 27), (ua 28), (ua 29), p.threads.val, iv ((p.threads.l.length : Nat) : Int), iv ((a32 : Nat) : Int), (ub 33), (ub 34), (ub 35), (ub 36), (ub 37), (ub 38), (ub 39), (⟨(p.threads.l.getD a32 default).ad, (p.threads.l.getD a32 default).cap, (p.threads.l.getD a32 default).l.take (min (p.threads.l.getD a32 default).l.length 6)⟩ : Sl Ins).val, iv ((((p.threads.l.getD a32 default).l.take (min (p.threads.l.getD a32 default).l.length 6)).length : Nat) : Int), iv ((b42 : Nat) : Int), (ub 43), (ub 44), (ub 45), (ub 46), (ub 47), (ub 48), (ub 49), (ub 50), (ub 51), (ub 52), (ub 53), (ub 54), (ub 55), (ub 56), (ub 57), (ub 58), (ub 59), (ub 60), (ub 61), (ua 62), (ua 63), (ua 64), (ua 65), (ua 66), (ua 67), (ua 68), undef, undef, undef, undef, undef, undef, undef, undef, undef, undef, undef, undef, undef, undef, undef, undef, undef, undef, undef, undef, undef, undef, undef, undef, undef, undef, undef, undef, undef, undef, undef, undef, undef, undef, undef, undef, undef, undef, undef, undef, undef, undef, undef, undef, undef, undef, undef, undef, undef, undef, undef, undef, undef, undef, undef, undef, undef, undef, undef, undef, undef, undef, undef, undef, undef, undef, undef, undef, undef, undef, undef, undef, undef, undef, undef, undef, undef], []⟩ := ⟨fun n => tq a_ n, ha_⟩
   clear ha_; subst hu_
   have hm6 : ((p.threads.l.getD a32 default).l.take (min (p.threads.l.getD a32 default).l.length 6)).length ≤ 6 := by rw [List.length_take]; omega
   refine wp_seq ?_; refine wp_region_lit ?_; refine wr (rp_int_lss rfl ((b42 : Nat) : Int) ((((p.threads.l.getD a32 default).l.take (min (p.threads.l.getD a32 default).l.length 6)).length : Nat) : Int) rfl rfl) ?_; simp only [N]
   refine wpList_nil ?_
   refine wp_seq ?_; refine wp_cond_split rfl (fun hc3 => ?_) (fun hc3 => ?_)
   · --T 3
    have hc3N4 : ((b42 : Nat) : Int) < ((((p.threads.l.getD a32 default).l.take (min (p.threads.l.getD a32 default).l.length 6)).length : Nat) : Int) := (by simpa using hc3)
    obtain ⟨rb, hrb⟩ : ∃ r, r = loopL fencedF_b (fencedF_bk arow1 ra) (((p.threads.l.getD a32 default).l.take (min (p.threads.l.getD a32 default).l.length 6)).drop (b42 + 1)) := ⟨_, rfl⟩
    have hFb2 := hFb.trans (loopL_step (show b42 < ((p.threads.l.getD a32 default).l.take (min (p.threads.l.getD a32 default).l.length 6)).length by omega))
    rw [← hrb] at hFb2
    refine wp_skip ?_
    refine wp_seq ?_; refine wp_block ?_
    refine wp_seq ?_; refine wp_region_lit ?_; refine wr (rp_indexAddr_sl (SlIn.take (IsProg.ins_at (H.ro_at 1 rfl) (t := a32) (by omega)) (min (p.threads.l.getD a32 default).l.length 6) (by omega)) rfl Tryz.underlying59 sz58 rfl b42 rfl (by show _ < ((p.threads.l.getD a32 default).l.take (min (p.threads.l.getD a32 default).l.length 6)).length; omega)) ?_; simp only [N]
    refine wr (rp_loadN_sl (SlIn.take (IsProg.ins_at (H.ro_at 1 rfl) (t := a32) (by omega)) (min (p.threads.l.getD a32 default).l.length 6) (by omega)) b42 (by show _ < ((p.threads.l.getD a32 default).l.take (min (p.threads.l.getD a32 default).l.length 6)).length; omega) rfl Tryz.underlying58 rfl rfl sz58) ?_; simp only [N]
    refine wl_alloc H rfl rfl zv58 ?_
    clear H; intro b3 w9 hnb3 H; dsimp only [Value.cells] at H
    simp only [N]
    refine wl_storeV H 0 rfl rfl rfl rfl (((((p.threads.l.getD a32 default).l.take (min (p.threads.l.getD a32 default).l.length 6)).getD b42 default).cells).toArray) rfl (Ins.cells_one _) sz58 ?_
    clear H; intro w10 H; simp only [M] at H
    simp only [N]
    refine wpList_nil ?_
    refine wp_seq ?_; refine wp_region_lit ?_; refine wr (rp_fieldAddr rfl Tryz.underlying58 rfl 0 rfl sz5 rfl 0 rfl) ?_; simp only [N]
    refine wr (rp_load1 H 0 rfl rfl rfl Tryz.underlying5 rfl (v := bv (((p.threads.l.getD a32 default).l.take (min (p.threads.l.getD a32 default).l.length 6)).getD b42 default).op) rfl) ?_; simp only [N]
    refine wpList_nil ?_
    refine wp_block ?_
    refine wp_seq ?_; refine wp_region_lit ?_; refine wr (rp_u8_eql rfl (((p.threads.l.getD a32 default).l.take (min (p.threads.l.getD a32 default).l.length 6)).getD b42 default).op (8 : UInt8) rfl rfl) ?_; simp only [N]
    refine wasg (.bool ((((p.threads.l.getD a32 default).l.take (min (p.threads.l.getD a32 default).l.length 6)).getD b42 default).op == (8 : UInt8))) ?_; simp only [N]
    refine wpList_nil ?_
    refine wp_cond_split rfl (fun hc4 => ?_) (fun hc4 => ?_)
    · --T 4
     have hc4N5 : ((((p.threads.l.getD a32 default).l.take (min (p.threads.l.getD a32 default).l.length 6)).getD b42 default).op).toNat = 8 := u8_eq hc4
     refine wp_skip ?_
     refine wp_region_lit ?_; refine wr (rp_int_add rfl ((b42 : Nat) : Int) (1 : Int) rfl rfl (by omega)) ?_; simp only [N]
     refine wmv (iv (((b42 : Nat) : Int) + (1 : Int))) ?_; simp only [N]
     refine wpList_nil ?_
     replace H := H.dropNew 0 rfl (foot_blk hnb3); simp only [m5, m6] at H
     show ∃ n', n' < _ ∧ _
     refine ⟨_, ?_, (b42 + 1), brow2, bvrow2, (by kernel_rfl), H, (by first | omega | (simp only [List.length_append, List.length_cons, List.length_nil]; omega)), (by omega), (hFb2.trans (bt hc4)).trans (congrFun hrb _), rfl⟩
     omega
    · --F 4
     have hc4N6 : ((((p.threads.l.getD a32 default).l.take (min (p.threads.l.getD a32 default).l.length 6)).getD b42 default).op).toNat ≠ 8 := u8_ne hc4
     refine wp_seq ?_; refine wp_region_lit ?_; refine wr (rp_u8_eql rfl (((p.threads.l.getD a32 default).l.take (min (p.threads.l.getD a32 default).l.length 6)).getD b42 default).op (2 : UInt8) rfl rfl) ?_; simp only [N]
     refine wasg (.bool ((((p.threads.l.getD a32 default).l.take (min (p.threads.l.getD a32 default).l.length 6)).getD b42 default).op == (2 : UInt8))) ?_; simp only [N]
     refine wpList_nil ?_
     refine wp_cond_split rfl (fun hc5 => ?_) (fun hc5 => ?_)
     · --T 5
      have hc5N7 : ((((p.threads.l.getD a32 default).l.take (min (p.threads.l.getD a32 default).l.length 6)).getD b42 default).op).toNat = 2 := u8_eq hc5
      refine wp_region_lit ?_; refine wmv bvrow2 ?_; simp only [N]
      refine wr (rp_loadN H 0 rfl rfl rfl Tryz.underlying58 rfl sz58 (Nat.le_of_ble_eq_true rfl) (cs' := (((p.threads.l.getD a32 default).l.take (min (p.threads.l.getD a32 default).l.length 6)).getD b42 default).cells) rfl) ?_; simp only [N]
      refine wr (rp_build rfl (vs := [(0, bv (7 : UInt8)), (6, bv (3 : UInt8))]) rfl (cs := #[bv (7 : UInt8), bv (0 : UInt8), bv (0 : UInt8), .bool false, bv (0 : UInt8), .bool false, bv (0 : UInt8), bv (0 : UInt8), bv (3 : UInt8), bv (0 : UInt8)]) (by kernel_rfl)) ?_; simp only [N]
      refine wl_xallocF H rfl (xa_buildSlice rfl Tryz.underlying59 sz58 zv58 (by decide) (by decide) (vs := [(0, .agg ((((p.threads.l.getD a32 default).l.take (min (p.threads.l.getD a32 default).l.length 6)).getD b42 default).cells).toArray), (1, .agg #[bv (7 : UInt8), bv (0 : UInt8), bv (0 : UInt8), .bool false, bv (0 : UInt8), .bool false, bv (0 : UInt8), bv (0 : UInt8), bv (3 : UInt8), bv (0 : UInt8)])]) rfl (cs := #[bv (((p.threads.l.getD a32 default).l.take (min (p.threads.l.getD a32 default).l.length 6)).getD b42 default).op, bv (((p.threads.l.getD a32 default).l.take (min (p.threads.l.getD a32 default).l.length 6)).getD b42 default).dst, bv (((p.threads.l.getD a32 default).l.take (min (p.threads.l.getD a32 default).l.length 6)).getD b42 default).loc, .bool (((p.threads.l.getD a32 default).l.take (min (p.threads.l.getD a32 default).l.length 6)).getD b42 default).a.reg, bv (((p.threads.l.getD a32 default).l.take (min (p.threads.l.getD a32 default).l.length 6)).getD b42 default).a.n, .bool (((p.threads.l.getD a32 default).l.take (min (p.threads.l.getD a32 default).l.length 6)).getD b42 default).b.reg, bv (((p.threads.l.getD a32 default).l.take (min (p.threads.l.getD a32 default).l.length 6)).getD b42 default).b.n, bv (((p.threads.l.getD a32 default).l.take (min (p.threads.l.getD a32 default).l.length 6)).getD b42 default).fn, bv (((p.threads.l.getD a32 default).l.take (min (p.threads.l.getD a32 default).l.length 6)).getD b42 default).mode, bv (((p.threads.l.getD a32 default).l.take (min (p.threads.l.getD a32 default).l.length 6)).getD b42 default).skip, bv (7 : UInt8), bv (0 : UInt8), bv (0 : UInt8), .bool false, bv (0 : UInt8), .bool false, bv (0 : UInt8), bv (0 : UInt8), bv (3 : UInt8), bv (0 : UInt8)]) (by kernel_rfl)) ?_
      clear H; intro b4 w11 hnb4 H
      simp only [N]
      refine wl_appendT Ins.cells H 1 rfl Tryz.underlying59 sz58 zv58 by58 rfl (by decide) rfl rfl (ad := ⟨b4, 0, none⟩) (m := 2) (c := 2) rfl [(((p.threads.l.getD a32 default).l.take (min (p.threads.l.getD a32 default).l.length 6)).getD b42 default), (⟨(7 : UInt8), (0 : UInt8), (0 : UInt8), ⟨false, (0 : UInt8)⟩, ⟨false, (0 : UInt8)⟩, (0 : UInt8), (3 : UInt8), (0 : UInt8)⟩ : Ins)] rfl insN (fun j u hu => cell_of_news (H.ro_at 0 rfl) j u hu) (by intro x; simp [Ins.cells, Value.oneCell']) (by first | omega | (simp only [List.length_append, List.length_cons, List.length_nil]; omega)) (by first | omega | (simp only [List.length_append, List.length_cons, List.length_nil]; omega)) (by simp) ?_
      clear H; intro b5 w12 H; simp only [M] at H
      simp only [N]
      refine wasg b5 ?_; simp only [N]
      refine wpList_nil ?_
      refine wp_region_lit ?_; refine wr (rp_int_add rfl ((b42 : Nat) : Int) (1 : Int) rfl rfl (by omega)) ?_; simp only [N]
      refine wmv (iv (((b42 : Nat) : Int) + (1 : Int))) ?_; simp only [N]
      refine wpList_nil ?_
      replace H := H.dropNew 0 rfl (foot_blk hnb3); simp only [m5, m6] at H
      replace H := H.facts (R' := [fun w => ∀ x ∈ arow1h, SlIn 10 Ins.cells x w, IsProg p, SlIn 1 eByte picks, Glob]) (by first | exact fun _ h => h | simp)
      show ∃ n', n' < _ ∧ _
      refine ⟨_, ?_, (b42 + 1), (brow2 ++ [(((p.threads.l.getD a32 default).l.take (min (p.threads.l.getD a32 default).l.length 6)).getD b42 default), (⟨(7 : UInt8), (0 : UInt8), (0 : UInt8), ⟨false, (0 : UInt8)⟩, ⟨false, (0 : UInt8)⟩, (0 : UInt8), (3 : UInt8), (0 : UInt8)⟩ : Ins)]), b5, (by kernel_rfl), H, (by first | omega | (simp only [List.length_append, List.length_cons, List.length_nil]; omega)), (by omega), (hFb2.trans ((bf hc4).trans (bt hc5))).trans (congrFun hrb _), rfl⟩
      omega
     · --F 5
      have hc5N8 : ((((p.threads.l.getD a32 default).l.take (min (p.threads.l.getD a32 default).l.length 6)).getD b42 default).op).toNat ≠ 2 := u8_ne hc5
      refine wp_region_lit ?_; refine wmv bvrow2 ?_; simp only [N]
      refine wr (rp_loadN H 0 rfl rfl rfl Tryz.underlying58 rfl sz58 (Nat.le_of_ble_eq_true rfl) (cs' := (((p.threads.l.getD a32 default).l.take (min (p.threads.l.getD a32 default).l.length 6)).getD b42 default).cells) rfl) ?_; simp only [N]
      refine wl_xallocF H rfl (xa_buildSlice rfl Tryz.underlying59 sz58 zv58 (by decide) (by decide) (vs := [(0, .agg ((((p.threads.l.getD a32 default).l.take (min (p.threads.l.getD a32 default).l.length 6)).getD b42 default).cells).toArray)]) rfl (cs := #[bv (((p.threads.l.getD a32 default).l.take (min (p.threads.l.getD a32 default).l.length 6)).getD b42 default).op, bv (((p.threads.l.getD a32 default).l.take (min (p.threads.l.getD a32 default).l.length 6)).getD b42 default).dst, bv (((p.threads.l.getD a32 default).l.take (min (p.threads.l.getD a32 default).l.length 6)).getD b42 default).loc, .bool (((p.threads.l.getD a32 default).l.take (min (p.threads.l.getD a32 default).l.length 6)).getD b42 default).a.reg, bv (((p.threads.l.getD a32 default).l.take (min (p.threads.l.getD a32 default).l.length 6)).getD b42 default).a.n, .bool (((p.threads.l.getD a32 default).l.take (min (p.threads.l.getD a32 default).l.length 6)).getD b42 default).b.reg, bv (((p.threads.l.getD a32 default).l.take (min (p.threads.l.getD a32 default).l.length 6)).getD b42 default).b.n, bv (((p.threads.l.getD a32 default).l.take (min (p.threads.l.getD a32 default).l.length 6)).getD b42 default).fn, bv (((p.threads.l.getD a32 default).l.take (min (p.threads.l.getD a32 default).l.length 6)).getD b42 default).mode, bv (((p.threads.l.getD a32 default).l.take (min (p.threads.l.getD a32 default).l.length 6)).getD b42 default).skip]) (by kernel_rfl)) ?_
      clear H; intro b6 w13 hnb6 H
      simp only [N]
      refine wl_appendT Ins.cells H 1 rfl Tryz.underlying59 sz58 zv58 by58 rfl (by decide) rfl rfl (ad := ⟨b6, 0, none⟩) (m := 1) (c := 1) rfl [(((p.threads.l.getD a32 default).l.take (min (p.threads.l.getD a32 default).l.length 6)).getD b42 default)] rfl insN (fun j u hu => cell_of_news (H.ro_at 0 rfl) j u hu) (by intro x; simp [Ins.cells, Value.oneCell']) (by first | omega | (simp only [List.length_append, List.length_cons, List.length_nil]; omega)) (by first | omega | (simp only [List.length_append, List.length_cons, List.length_nil]; omega)) (by simp) ?_
      clear H; intro b7 w14 H; simp only [M] at H
      simp only [N]
      refine wasg b7 ?_; simp only [N]
      refine wpList_nil ?_
      refine wp_region_lit ?_; refine wr (rp_int_add rfl ((b42 : Nat) : Int) (1 : Int) rfl rfl (by omega)) ?_; simp only [N]
      refine wmv (iv (((b42 : Nat) : Int) + (1 : Int))) ?_; simp only [N]
      refine wpList_nil ?_
      replace H := H.dropNew 0 rfl (foot_blk hnb3); simp only [m5, m6] at H
      replace H := H.facts (R' := [fun w => ∀ x ∈ arow1h, SlIn 10 Ins.cells x w, IsProg p, SlIn 1 eByte picks, Glob]) (by first | exact fun _ h => h | simp)
      show ∃ n', n' < _ ∧ _
      refine ⟨_, ?_, (b42 + 1), (brow2 ++ [(((p.threads.l.getD a32 default).l.take (min (p.threads.l.getD a32 default).l.length 6)).getD b42 default)]), b7, (by kernel_rfl), H, (by first | omega | (simp only [List.length_append, List.length_cons, List.length_nil]; omega)), (by omega), (hFb2.trans ((bf hc4).trans (bf hc5))).trans (congrFun hrb _), rfl⟩
      omega
   · --F 3
    have hc3N9 : ((((p.threads.l.getD a32 default).l.take (min (p.threads.l.getD a32 default).l.length 6)).length : Nat) : Int) ≤ ((b42 : Nat) : Int) := (by simpa using hc3)
    have hFb2 := hFb.trans (loopL_end (show ((p.threads.l.getD a32 default).l.take (min (p.threads.l.getD a32 default).l.length 6)).length ≤ b42 by omega))
    refine wp_exit ?_
    refine wp_region_lit ?_; refine wr (rp_fieldAddr rfl Tryz.underlying29 rfl 3 rfl sz24 rfl 3 rfl) ?_; simp only [N]
    refine wr (rp_load1 H 2 rfl rfl rfl Tryz.underlying24 rfl (v := avrow1) rfl) ?_; simp only [N]
    obtain ⟨fz1, hfz1, hfs1⟩ := row_sl H 0 rfl brow2 rfl rfl insN (by first | omega | (simp only [List.length_append, List.length_cons, List.length_nil]; omega))
    replace H := H.order [0, 1, 2, 3] rfl (L' := [.row bvrow2 58 10 brow2.length (brow2.flatMap Ins.cells), .row avrow1 59 1 arow1h.length (arow1h.flatMap eSlI), .blk b2 (.cells #[.string p.name, p.locs.val, p.init.val, avrow1, bv p.ask, bv p.cond.kind, bv p.cond.thread, bv p.cond.n, bv p.cond.valu, p.cond.kids.val] 29 (0, 0)), .blk b1 (.cells (p.cells).toArray 29 (0, 0))]) rfl
    replace H := H.freeze (H.newrow 0 rfl)
    replace H := H.infer (SlIn 10 Ins.cells (⟨fz1.1, fz1.2, brow2⟩ : Sl Ins)) (fun _ hR => hfs1 _ (ro_mem hR 0 rfl))
    subst hfz1
    have hcfz1 : brow2.length ≤ 140737488355328 := (H.ro_at 0 rfl).2.2.1
    refine wmv ((⟨fz1.1, fz1.2, brow2⟩ : Sl Ins).val) ?_; simp only [N]
    refine wl_xallocF H rfl (xa_buildSlice rfl Tryz.underlying24 sz59 zv59 (by decide) (by decide) (vs := [(0, (⟨fz1.1, fz1.2, brow2⟩ : Sl Ins).val)]) rfl (cs := #[(⟨fz1.1, fz1.2, brow2⟩ : Sl Ins).val]) (by kernel_rfl)) ?_
    clear H; intro b8 w15 hnb8 H
    simp only [N]
    refine wl_appendT eSlI H 0 rfl Tryz.underlying24 sz59 zv59 by59 rfl (by decide) rfl rfl (ad := ⟨b8, 0, none⟩) (m := 1) (c := 1) rfl [(⟨fz1.1, fz1.2, brow2⟩ : Sl Ins)] rfl eSlI_n (fun j u hu => cell_of_news (H.ro_at 0 rfl) j u hu) (by intro x; simp [eSlI, Sl.val, Value.oneCell']) (by first | omega | (simp only [List.length_append, List.length_cons, List.length_nil]; omega)) (by first | omega | (simp only [List.length_append, List.length_cons, List.length_nil]; omega)) (by simp) ?_
    clear H; intro b9 w16 H; simp only [M] at H
    simp only [N]
    replace H := H.infer (fun w => ∀ x ∈ (arow1h ++ [(⟨fz1.1, fz1.2, brow2⟩ : Sl Ins)]), SlIn 10 Ins.cells x w) (fun _ hR x hx => (List.mem_append.1 hx).elim (fun h => (ro_mem hR 3 rfl) x h) (fun h => by rw [List.mem_singleton.1 h]; exact (ro_mem hR 1 rfl)))
    refine wr (rp_fieldAddr rfl Tryz.underlying29 rfl 3 rfl sz24 rfl 3 rfl) ?_; simp only [N]
    refine wl_store1 H 1 rfl rfl rfl (cs := #[.string p.name, p.locs.val, p.init.val, avrow1, bv p.ask, bv p.cond.kind, bv p.cond.thread, bv p.cond.n, bv p.cond.valu, p.cond.kids.val]) rfl (v := b9) rfl (H.rowone 0 rfl) sz24 (Nat.le_of_ble_eq_true rfl) ?_
    clear H; intro w17 H; simp only [Ms] at H
    simp only [N]
    refine wpList_nil ?_
    refine wp_region_lit ?_; refine wr (rp_int_add rfl ((a32 : Nat) : Int) (1 : Int) rfl rfl (by omega)) ?_; simp only [N]
    refine wmv (iv (((a32 : Nat) : Int) + (1 : Int))) ?_; simp only [N]
    refine wpList_nil ?_
    replace H := H.facts (R' := [fun w => ∀ x ∈ (arow1h ++ [(⟨fz1.1, fz1.2, brow2⟩ : Sl Ins)]), SlIn 10 Ins.cells x w, IsProg p, SlIn 1 eByte picks, Glob]) (by first | exact fun _ h => h | simp)
    show ∃ n', n' < _ ∧ _
    refine ⟨_, ?_, (a32 + 1), (arow1 ++ [brow2]), b9, (arow1h ++ [(⟨fz1.1, fz1.2, brow2⟩ : Sl Ins)]), (by kernel_rfl), H, (by first | assumption | (rw [List.map_append, (by assumption : arow1h.map Sl.l = arow1)]; rfl)), (by omega), (by first | omega | (simp only [List.length_append, List.length_cons, List.length_nil]; omega)), hFb2.trans (congrFun hra _), rfl⟩
    omega
  · --F 2
   have hc2N10 : ((p.threads.l.length : Nat) : Int) ≤ ((a32 : Nat) : Int) := (by simpa using hc2)
   have hFa2 := hFa.trans (loopL_end (show p.threads.l.length ≤ a32 by omega))
   refine wp_exit ?_
   refine wp_seq ?_; refine wp_region_lit ?_; refine wasg (bv (2 : UInt8)) ?_; simp only [N]
   refine wpList_nil ?_
   refine wp_seq ?_; refine wp_cutX (fun a' w' => ∃ (c13 : UInt8), a' = ⟨#[(ua 0), .bool pso, picks.val, (ua 3), undef, undef, (ua 6), .pointer (some ⟨b2, 0, none⟩), undef, (ua 9), (ua 10), undef, (ua 12), bv c13, undef, undef, undef, undef, undef, undef, undef, undef, undef, (ua 23), (ua 24), (ua 25), undef, (ua 27), (ua 28), (ua 29), (tq a' 30), (tq a' 31), (tq a' 32), (tq a' 33), (ua 34), (ua 35), (ua 36), (ua 37), (ua 38), (ua 39), (ua 40), (ua 41), (ua 42), (ua 43), (ua 44), (ua 45), (ua 46), (ua 47), (ua 48), (ua 49), (ua 50), (ua 51), (ua 52), (ua 53), (ua 54), (ua 55), (ua 56), (ua 57), (ua 58), (ua 59), (ua 60), (ua 61), (ua 62), (ua 63), (ua 64), (ua 65), (ua 66), (ua 67), (ua 68), (tq a' 69), undef, undef, undef, undef, undef, undef, undef, undef, undef, undef, undef, undef, undef, undef, undef, undef, undef, undef, undef, undef, undef, undef, undef, undef, undef, undef, undef, undef, undef, undef, undef, undef, undef, undef, undef, undef, undef, undef, undef, undef, undef, undef, undef, undef, undef, undef, undef, undef, undef, undef, undef, undef, undef, undef, undef, undef, undef, undef, undef, undef, undef, undef, undef, undef, undef, undef, undef, undef, undef, undef, undef, undef, undef, undef, undef, undef], []⟩ ∧ Own w [] [fun w => ∀ x ∈ arow1h, SlIn 10 Ins.cells x w, IsProg p, SlIn 1 eByte picks, Glob] [.row avrow1 59 1 arow1h.length (arow1h.flatMap eSlI), .blk b2 (.cells #[.string p.name, p.locs.val, p.init.val, avrow1, bv p.ask, bv p.cond.kind, bv p.cond.thread, bv p.cond.n, bv p.cond.valu, p.cond.kids.val] 29 (0, 0)), .blk b1 (.cells (p.cells).toArray 29 (0, 0))] w' ∧ (c13 = 2 ∨ c13 = 3) ∧ (fencedF p pso picks.l) = fencedF_c p picks.l arow1 c13) ?_ ?_
   ·
    refine wp_seq ?_; refine wp_region_lit ?_; refine wmv (.bool pso) ?_; simp only [N]
    refine wpList_nil ?_
    refine wp_cond_split rfl (fun hc6 => ?_) (fun hc6 => ?_)
    · --T 6
     refine wp_region_lit ?_; refine wasg (bv (3 : UInt8)) ?_; simp only [N]
     refine wpList_nil ?_
     exact ⟨(3 : UInt8), (by kernel_rfl), H, (by first | exact .inl rfl | exact .inr rfl), hFa2.trans (bt hc6)⟩
    · --F 6
     refine wp_skip ?_
     exact ⟨(2 : UInt8), (by kernel_rfl), H, (by first | exact .inl rfl | exact .inr rfl), hFa2.trans (bf hc6)⟩
   clear H
   rintro a_ w18 ⟨c13, ha_, H, hjc0, hFc⟩
   obtain ⟨uc, hu_⟩ : ∃ uc : Nat → Value, a_ = ⟨#[(ua 0), .bool pso, picks.val, (ua 3), undef, undef, (ua 6), .pointer (some ⟨b2, 0, none⟩), undef, (ua 9), (ua 10), undef, (ua 12), bv c13, undef, undef, undef, undef, undef, undef, undef, undef, undef, (ua 23), (ua 24), (ua 25), undef, (ua 27), (ua 28), (ua 29), (uc 30), (uc 31), (uc 32), (uc 33), (ua 34), (ua 35), (ua 36), (ua 37), (ua 38), (ua 39), (ua 40), (ua 41), (ua 42), (ua 43), (ua 44), (ua 45), (ua 46), (ua 47), (ua 48), (ua 49), (ua 50), (ua 51), (ua 52), (ua 53), (ua 54), (ua 55), (ua 56), (ua 57), (ua 58), (ua 59), (ua 60), (ua 61), (ua 62), (ua 63), (ua 64), (ua 65), (ua 66), (ua 67), (ua 68), (uc 69), undef, undef, undef, undef, undef, undef, undef, undef, undef, undef, undef, undef, undef, undef, undef, undef, undef, undef, undef, undef, undef, undef, undef, undef, undef, undef, undef, undef, undef, undef, undef, undef, undef, undef, undef, undef, undef, undef, undef, undef, undef, undef, undef, undef, undef, undef, undef, undef, undef, undef, undef, undef, undef, undef, undef, undef, undef, undef, undef, undef, undef, undef, undef, undef, undef, undef, undef, undef, undef, undef, undef, undef, undef, undef, undef, undef], []⟩ := ⟨fun n => tq a_ n, ha_⟩
   clear ha_; subst hu_
   obtain ⟨fz2, hfz2, hfs2⟩ := row_sl H 0 rfl arow1h rfl rfl eSlI_n (by first | omega | (simp only [List.length_append, List.length_cons, List.length_nil]; omega))
   replace H := H.order [0, 1, 2] rfl (L' := [.row avrow1 59 1 arow1h.length (arow1h.flatMap eSlI), .blk b2 (.cells #[.string p.name, p.locs.val, p.init.val, avrow1, bv p.ask, bv p.cond.kind, bv p.cond.thread, bv p.cond.n, bv p.cond.valu, p.cond.kids.val] 29 (0, 0)), .blk b1 (.cells (p.cells).toArray 29 (0, 0))]) rfl
   replace H := H.freeze (H.newrow 0 rfl)
   replace H := H.infer (SlIn 1 eSlI (⟨fz2.1, fz2.2, arow1h⟩ : Sl (Sl Ins))) (fun _ hR => hfs2 _ (ro_mem hR 0 rfl))
   subst hfz2
   have hcfz2 : arow1h.length ≤ 140737488355328 := (H.ro_at 0 rfl).2.2.1
   have hEpq1 : er (progW p (⟨fz2.1, fz2.2, arow1h⟩ : Sl (Sl Ins))) = progT p arow1 := progW_er p (by first | assumption | simp [*])
   obtain ⟨pq1, hqpq1⟩ : ∃ q, q = progW p (⟨fz2.1, fz2.2, arow1h⟩ : Sl (Sl Ins)) := ⟨_, rfl⟩
   have H := H.infer (IsProg pq1) (fun _ hR => by rw [hqpq1]; exact progW_is (ro_mem hR 3 rfl) (ro_mem hR 0 rfl) (ro_mem hR 2 rfl))
   rw [← hqpq1] at hEpq1
   have hcpq1 : #[.string p.name, p.locs.val, p.init.val, (⟨fz2.1, fz2.2, arow1h⟩ : Sl (Sl Ins)).val, bv p.ask, bv p.cond.kind, bv p.cond.thread, bv p.cond.n, bv p.cond.valu, p.cond.kids.val] = (pq1.cells).toArray := by rw [hqpq1]; rfl
   rw [hcpq1] at H
   clear hcpq1
   clear hqpq1
   refine wp_seq ?_; refine wp_cutX (fun a' w' => ∃  (bd14 : Nat) (xd78_ : (Option Addr × Nat)), a' = ⟨#[(ua 0), .bool pso, picks.val, (ua 3), undef, undef, (ua 6), .pointer (some ⟨b2, 0, none⟩), undef, (ua 9), (ua 10), undef, (ua 12), bv c13, .pointer (some ⟨bd14, 0, none⟩), (⟨xd78_.1, xd78_.2, (bPlayF (progT p arow1) c13 (picks.l.take (min picks.l.length 100))).2.1⟩ : Sl Pass).val, iv (bPlayF (progT p arow1) c13 (picks.l.take (min picks.l.length 100))).2.2, undef, undef, undef, undef, undef, undef, (ua 23), (ua 24), (ua 25), undef, (ua 27), (ua 28), (ua 29), (uc 30), (uc 31), (uc 32), (uc 33), (ua 34), (ua 35), (ua 36), (ua 37), (ua 38), (ua 39), (ua 40), (ua 41), (ua 42), (ua 43), (ua 44), (ua 45), (ua 46), (ua 47), (ua 48), (ua 49), (ua 50), (ua 51), (ua 52), (ua 53), (ua 54), (ua 55), (ua 56), (ua 57), (ua 58), (ua 59), (ua 60), (ua 61), (ua 62), (ua 63), (ua 64), (ua 65), (ua 66), (ua 67), (ua 68), (uc 69), (tq a' 70), (tq a' 71), (tq a' 72), (tq a' 73), (tq a' 74), (tq a' 75), (tq a' 76), (tq a' 77), (tq a' 78), (tq a' 79), (tq a' 80), (tq a' 81), undef, undef, undef, undef, undef, undef, undef, undef, undef, undef, undef, undef, undef, undef, undef, undef, undef, undef, undef, undef, undef, undef, undef, undef, undef, undef, undef, undef, undef, undef, undef, undef, undef, undef, undef, undef, undef, undef, undef, undef, undef, undef, undef, undef, undef, undef, undef, undef, undef, undef, undef, undef, undef, undef, undef, undef, undef, undef, undef, undef, undef, undef, undef, undef], []⟩ ∧ Own w [] [SlIn 3 Pass.cells (⟨xd78_.1, xd78_.2, (bPlayF (progT p arow1) c13 (picks.l.take (min picks.l.length 100))).2.1⟩ : Sl Pass), IsProg pq1, SlIn 1 eSlI (⟨fz2.1, fz2.2, arow1h⟩ : Sl (Sl Ins)), fun w => (Res.row ((⟨fz2.1, fz2.2, arow1h⟩ : Sl (Sl Ins)).val) 59 1 arow1h.length (arow1h.flatMap eSlI)).ok w, fun w => ∀ x ∈ arow1h, SlIn 10 Ins.cells x w, IsProg p, SlIn 1 eByte picks, Glob] [.blk bd14 (.cells (enc (bPlayF (progT p arow1) c13 (picks.l.take (min picks.l.length 100))).1).toArray 64 (0, 0)), .blk b2 (.cells (pq1.cells).toArray 29 (0, 0)), .blk b1 (.cells (p.cells).toArray 29 (0, 0))] w' ∧ w.heap.size ≤ bd14 ∧ (fencedF p pso picks.l) = fencedF_d p picks.l arow1 c13) ?_ ?_
   ·
    refine wp_region_mix 16 H (by kernel_rfl) ?_
    refine wxl_tk 0 rfl (xy_run rfl (fun w H => rp_loadN H 0 rfl rfl rfl Tryz.underlying29 rfl sz29 (Nat.le_of_ble_eq_true rfl) (cs' := pq1.cells) rfl)) ?_; simp only [N]
    refine wxl_tk 1 rfl (xy_run rfl (fun w H => rp_move rfl (v := bv c13) rfl)) ?_; simp only [N]
    refine wxl_tk 2 rfl (xy_run rfl (fun w H => rp_move rfl (v := picks.val) rfl)) ?_; simp only [N]
    refine wxl_tk 3 rfl (xy_run rfl (fun w H => rp_move rfl (v := picks.val) rfl)) ?_; simp only [N]
    refine wxl_tk 4 rfl (xy_run rfl (fun w H => rp_len_sl (s := picks) Tryz.underlying23 rfl)) ?_; simp only [N]
    refine wxl_tk 5 rfl (xy_run rfl (fun w H => rp_vconv (rp_min2 rfl ((picks.l.length : Nat) : Int) (100 : Int) rfl rfl) (congrArg (Value.int .i64) (show min ((picks.l.length : Nat) : Int) (100 : Int) = (((min picks.l.length 100) : Nat) : Int) by omega)))) ?_; simp only [N]
    have hsl77 : (picks.l.take (min picks.l.length 100)).length ≤ 140737488355328 := by simp only [List.length_take, List.length_drop]; omega
    refine wxl_tk 6 rfl (xy_run rfl (fun w H => rp_slice_slh (H.ro_at 5 rfl) rfl Tryz.underlying23 sz5 rfl (min picks.l.length 100) rfl (by omega))) ?_; simp only [N]
    refine wxl_each2 7 12 (by kernel_rfl) ?_ ?_
    ·
     refine xs_fresh rfl rfl rfl (rc_go Tryz.func17 (by kernel_rfl) rfl) (fun w H => (by have hq := bPlayF_spec pq1 c13 (⟨picks.ad, picks.cap, picks.l.take (min picks.l.length 100)⟩ : Sl UInt8) _ (H.ro_at 0 rfl) (SlIn.take (H.ro_at 5 rfl) (min picks.l.length 100) (by omega)) (H.ro_at 6 rfl); rw [show (bPlayF pq1 c13 ((⟨picks.ad, picks.cap, picks.l.take (min picks.l.length 100)⟩ : Sl UInt8).l)) = (bPlayF (progT p arow1) c13 (picks.l.take (min picks.l.length 100))) from by rw [← bPlayF_er pq1, show er pq1 = er (progT p arow1) from (hEpq1.trans (progT_er _ _).symm), bPlayF_er]] at hq; exact hq)) ?_
     intro xd78_
     simp only [N, M, Value.cells]
     refine wxl_tk 8 rfl (xy_run rfl (fun w H => rp_move rfl (v := .tuple #[.agg (enc (bPlayF (progT p arow1) c13 (picks.l.take (min picks.l.length 100))).1).toArray, (⟨xd78_.1, xd78_.2, (bPlayF (progT p arow1) c13 (picks.l.take (min picks.l.length 100))).2.1⟩ : Sl Pass).val, iv (bPlayF (progT p arow1) c13 (picks.l.take (min picks.l.length 100))).2.2]) rfl)) ?_; simp only [N]
     refine wxl_tk 9 rfl (xy_run rfl (fun w H => rp_extract rfl rfl (v := .agg (enc (bPlayF (progT p arow1) c13 (picks.l.take (min picks.l.length 100))).1).toArray) rfl)) ?_; simp only [N]
     refine wxl_tk 10 rfl (xy_run rfl (fun w H => rp_extract rfl rfl (v := (⟨xd78_.1, xd78_.2, (bPlayF (progT p arow1) c13 (picks.l.take (min picks.l.length 100))).2.1⟩ : Sl Pass).val) rfl)) ?_; simp only [N]
     refine wxl_tk 11 rfl (xy_run rfl (fun w H => rp_extract rfl rfl (v := iv (bPlayF (progT p arow1) c13 (picks.l.take (min picks.l.length 100))).2.2) rfl)) ?_; simp only [N]
     refine wxl_alloc 12 rfl rfl (by kernel_rfl) rfl (xa_alloc rfl zv64) ?_
     intro bd14
     simp only [N, M, Value.cells]
     refine wxl_store 13 0 rfl rfl (by kernel_rfl) rfl rfl (xs_whole rfl rfl (vs := (enc (bPlayF (progT p arow1) c13 (picks.l.take (min picks.l.length 100))).1).toArray) rfl (fun v hv => enc_one v (by simpa using hv)) (by first | exact sz64 | (rw [sz64]; congr 1; first | omega | simp [-List.reduceReplicate] <;> omega | simp [*, -List.reduceReplicate] <;> omega)) (by first | rfl | first | omega | simp [-List.reduceReplicate] <;> omega | simp [*, -List.reduceReplicate] <;> omega)) ?_
     simp only [N, M, Value.cells]
     refine wxl_tk 14 rfl (xy_run rfl (fun w H => rp_assign rfl (v := (⟨xd78_.1, xd78_.2, (bPlayF (progT p arow1) c13 (picks.l.take (min picks.l.length 100))).2.1⟩ : Sl Pass).val) rfl)) ?_; simp only [N]
     refine wxl_tk 15 rfl (xy_run rfl (fun w H => rp_assign rfl (v := iv (bPlayF (progT p arow1) c13 (picks.l.take (min picks.l.length 100))).2.2) rfl)) ?_; simp only [N]
     refine wpX_done (by kernel_rfl) ?_ _
     clear H; intro w19 H; simp only [List.cons_append, List.nil_append] at H
     exact ⟨bd14, xd78_, (by kernel_rfl), H, (H.newrow 0 rfl _ rfl), hFc⟩
    ·
     refine xs_allocR rfl rfl rfl (xa_alloc rfl zv64) ?_
     intro bd14
     simp only [N, M, Value.cells]
     refine wxl_fresh 7 rfl rfl (by kernel_rfl) rfl (rc_go Tryz.func17 (by kernel_rfl) rfl) (fun w H => (by have hq := bPlayF_spec pq1 c13 (⟨picks.ad, picks.cap, picks.l.take (min picks.l.length 100)⟩ : Sl UInt8) _ (H.ro_at 0 rfl) (SlIn.take (H.ro_at 5 rfl) (min picks.l.length 100) (by omega)) (H.ro_at 6 rfl); rw [show (bPlayF pq1 c13 ((⟨picks.ad, picks.cap, picks.l.take (min picks.l.length 100)⟩ : Sl UInt8).l)) = (bPlayF (progT p arow1) c13 (picks.l.take (min picks.l.length 100))) from by rw [← bPlayF_er pq1, show er pq1 = er (progT p arow1) from (hEpq1.trans (progT_er _ _).symm), bPlayF_er]] at hq; exact hq)) ?_
     intro xd78_
     simp only [N, M, Value.cells]
     refine wxl_tk 8 rfl (xy_run rfl (fun w H => rp_move rfl (v := .tuple #[.agg (enc (bPlayF (progT p arow1) c13 (picks.l.take (min picks.l.length 100))).1).toArray, (⟨xd78_.1, xd78_.2, (bPlayF (progT p arow1) c13 (picks.l.take (min picks.l.length 100))).2.1⟩ : Sl Pass).val, iv (bPlayF (progT p arow1) c13 (picks.l.take (min picks.l.length 100))).2.2]) rfl)) ?_; simp only [N]
     refine wxl_tk 9 rfl (xy_run rfl (fun w H => rp_extract rfl rfl (v := .agg (enc (bPlayF (progT p arow1) c13 (picks.l.take (min picks.l.length 100))).1).toArray) rfl)) ?_; simp only [N]
     refine wxl_tk 10 rfl (xy_run rfl (fun w H => rp_extract rfl rfl (v := (⟨xd78_.1, xd78_.2, (bPlayF (progT p arow1) c13 (picks.l.take (min picks.l.length 100))).2.1⟩ : Sl Pass).val) rfl)) ?_; simp only [N]
     refine wxl_tk 11 rfl (xy_run rfl (fun w H => rp_extract rfl rfl (v := iv (bPlayF (progT p arow1) c13 (picks.l.take (min picks.l.length 100))).2.2) rfl)) ?_; simp only [N]
     refine wxl_store 13 0 rfl rfl (by kernel_rfl) rfl rfl (xs_whole rfl rfl (vs := (enc (bPlayF (progT p arow1) c13 (picks.l.take (min picks.l.length 100))).1).toArray) rfl (fun v hv => enc_one v (by simpa using hv)) (by first | exact sz64 | (rw [sz64]; congr 1; first | omega | simp [-List.reduceReplicate] <;> omega | simp [*, -List.reduceReplicate] <;> omega)) (by first | rfl | first | omega | simp [-List.reduceReplicate] <;> omega | simp [*, -List.reduceReplicate] <;> omega)) ?_
     simp only [N, M, Value.cells]
     refine wxl_tk 14 rfl (xy_run rfl (fun w H => rp_assign rfl (v := (⟨xd78_.1, xd78_.2, (bPlayF (progT p arow1) c13 (picks.l.take (min picks.l.length 100))).2.1⟩ : Sl Pass).val) rfl)) ?_; simp only [N]
     refine wxl_tk 15 rfl (xy_run rfl (fun w H => rp_assign rfl (v := iv (bPlayF (progT p arow1) c13 (picks.l.take (min picks.l.length 100))).2.2) rfl)) ?_; simp only [N]
     refine wpX_done (by kernel_rfl) ?_ _
     clear H; intro w20 H; simp only [List.cons_append, List.nil_append] at H
     exact ⟨bd14, xd78_, (by kernel_rfl), H, (H.newrow 0 rfl _ rfl), hFc⟩
   clear H
   rintro a_ w21 ⟨bd14, xd78_, ha_, H, hnbd14, hFd⟩
   obtain ⟨ud, hu_⟩ : ∃ ud : Nat → Value, a_ = ⟨#[(ua 0), .bool pso, picks.val, (ua 3), undef, undef, (ua 6), .pointer (some ⟨b2, 0, none⟩), undef, (ua 9), (ua 10), undef, (ua 12), bv c13, .pointer (some ⟨bd14, 0, none⟩), (⟨xd78_.1, xd78_.2, (bPlayF (progT p arow1) c13 (picks.l.take (min picks.l.length 100))).2.1⟩ : Sl Pass).val, iv (bPlayF (progT p arow1) c13 (picks.l.take (min picks.l.length 100))).2.2, undef, undef, undef, undef, undef, undef, (ua 23), (ua 24), (ua 25), undef, (ua 27), (ua 28), (ua 29), (uc 30), (uc 31), (uc 32), (uc 33), (ua 34), (ua 35), (ua 36), (ua 37), (ua 38), (ua 39), (ua 40), (ua 41), (ua 42), (ua 43), (ua 44), (ua 45), (ua 46), (ua 47), (ua 48), (ua 49), (ua 50), (ua 51), (ua 52), (ua 53), (ua 54), (ua 55), (ua 56), (ua 57), (ua 58), (ua 59), (ua 60), (ua 61), (ua 62), (ua 63), (ua 64), (ua 65), (ua 66), (ua 67), (ua 68), (uc 69), (ud 70), (ud 71), (ud 72), (ud 73), (ud 74), (ud 75), (ud 76), (ud 77), (ud 78), (ud 79), (ud 80), (ud 81), undef, undef, undef, undef, undef, undef, undef, undef, undef, undef, undef, undef, undef, undef, undef, undef, undef, undef, undef, undef, undef, undef, undef, undef, undef, undef, undef, undef, undef, undef, undef, undef, undef, undef, undef, undef, undef, undef, undef, undef, undef, undef, undef, undef, undef, undef, undef, undef, undef, undef, undef, undef, undef, undef, undef, undef, undef, undef, undef, undef, undef, undef, undef, undef], []⟩ := ⟨fun n => tq a_ n, ha_⟩
   clear ha_; subst hu_
   refine wp_seq ?_; refine wp_region_lit ?_; refine wr (rp_loadN H 1 rfl rfl rfl Tryz.underlying29 rfl sz29 (Nat.le_of_ble_eq_true rfl) (cs' := pq1.cells) rfl) ?_; simp only [N]
   refine wl_callE H rfl (rc_go Tryz.func18 (by kernel_rfl) rfl) (by have hq := startF_spec pq1 _ (H.ro_at 1 rfl) (H.ro_at 7 rfl); rw [show (startF pq1) = (startF (progT p arow1)) from by rw [← startF_er pq1, show er pq1 = er (progT p arow1) from (hEpq1.trans (progT_er _ _).symm), startF_er]] at hq; exact hq) ?_
   clear H; intro w22 H
   simp only [N]
   generalize hv84 : (startF (progT p arow1)) = v84
   have hFv84 : (fencedF p pso picks.l) = fencedF_v84 p picks.l arow1 c13 v84 := by first | (rw [← hv84]; exact hFd) | exact hFd
   have hlv84 : (v84.1).length = 142 := by rw [← hv84]; first | omega | simp [-List.reduceReplicate] <;> omega | simp [*, -List.reduceReplicate] <;> omega
   refine wmv (.tuple #[.agg (enc v84.1).toArray, iv v84.2]) ?_; simp only [N]
   refine wr (rp_extract rfl rfl (v := .agg (enc v84.1).toArray) rfl) ?_; simp only [N]
   refine wr (rp_extract rfl rfl (v := iv v84.2) rfl) ?_; simp only [N]
   refine wl_alloc H rfl rfl zv41 ?_
   clear H; intro b10 w23 hnb10 H; dsimp only [Value.cells] at H
   simp only [N]
   simp only [enc_replicate] at H
   refine wl_storeA H 0 rfl rfl rfl rfl v84.1 rfl sz41 ?_
   clear H; intro w24 H; simp only [M] at H
   simp only [N]
   refine wasg (iv v84.2) ?_; simp only [N]
   refine wpList_nil ?_
   refine wp_seq ?_; refine wp_region_lit ?_; refine wr (rp_loadWA H 0 rfl rfl rfl Tryz.underlying41 rfl sz41 rfl) ?_; simp only [N]
   refine wl_alloc H rfl rfl zv41 ?_
   clear H; intro b11 w25 hnb11 H; dsimp only [Value.cells] at H
   simp only [N]
   simp only [enc_replicate] at H
   refine wl_storeA H 0 rfl rfl rfl rfl v84.1 rfl sz41 ?_
   clear H; intro w26 H; simp only [M] at H
   simp only [N]
   refine wpList_nil ?_
   refine wp_seq ?_; refine wp_seq ?_; refine wp_region_lit ?_; refine wmv (iv (bPlayF (progT p arow1) c13 (picks.l.take (min picks.l.length 100))).2.2) ?_; simp only [N]
   refine wr (rp_int_neq rfl (bPlayF (progT p arow1) c13 (picks.l.take (min picks.l.length 100))).2.2 (0 : Int) rfl rfl) ?_; simp only [N]
   refine wmv (.bool ((bPlayF (progT p arow1) c13 (picks.l.take (min picks.l.length 100))).2.2 != (0 : Int))) ?_; simp only [N]
   refine wl_g (wn_f rfl rfl) (v := iv v84.2) (fun hg => rp_move rfl (v := iv v84.2) rfl) ?_; simp only [N]
   refine wl_g (wn_f rfl rfl) (v := .bool (v84.2 != (0 : Int))) (fun hg => by have x12 : (bPlayF (progT p arow1) c13 (picks.l.take (min picks.l.length 100))).2.2 = (0 : Int) := (by simpa using (notT hg)); exact (by simp only [gv_t hg]; exact rp_int_neq rfl v84.2 (0 : Int) rfl rfl)) ?_; simp only [N]
   refine wr (rp_pickO rfl (p := ((bPlayF (progT p arow1) c13 (picks.l.take (min picks.l.length 100))).2.2 != (0 : Int))) (q := (v84.2 != (0 : Int))) rfl rfl rfl) ?_; simp only [N]
   refine wpList_nil ?_
   refine wp_cond_split rfl (fun hc7 => ?_) (fun hc7 => ?_)
   · --T 7
    refine wp_seq ?_; refine wp_region_lit ?_; refine wasg (.bool false) ?_; simp only [N]
    refine wpList_nil ?_
    refine wp_ret ?_
    try simp only [Exit.inBlock, Exit.then, cutP]
    refine bodyPost_ret (results1 rfl (rv_tmp rfl)) rfl ?_
    have hF : (fencedF p pso picks.l) = false := hFv84.trans (bt hc7)
    rw [hF]
    exact ⟨rfl, H.ext⟩
   · --F 7
    have hc7N13 : (bPlayF (progT p arow1) c13 (picks.l.take (min picks.l.length 100))).2.2 = (0 : Int) := (by simpa using (orl hc7))
    have hc7N14 : v84.2 = (0 : Int) := (by simpa using (orr hc7))
    have hrq := bstart_right (p := progT p arow1) (by rw [hv84]; simpa using orr hc7)
    have hlq : pq1.threads.l.length ≤ 4 := by rw [← er_len, hEpq1]; exact (right_ok hrq).threads.2
    have hord := bplay_order (p := progT p arow1) (mach := c13) (.inr hjc0) (picks.l.take (min picks.l.length 100))
    refine wp_skip ?_
    refine wp_seq ?_; refine wp_seq ?_; refine wp_region_lit ?_; refine wmv ((⟨xd78_.1, xd78_.2, (bPlayF (progT p arow1) c13 (picks.l.take (min picks.l.length 100))).2.1⟩ : Sl Pass).val) ?_; simp only [N]
    refine wr (rp_len_sl (s := (⟨xd78_.1, xd78_.2, (bPlayF (progT p arow1) c13 (picks.l.take (min picks.l.length 100))).2.1⟩ : Sl Pass)) Tryz.underlying44 rfl) ?_; simp only [N]
    refine wmv (iv (0 : Int)) ?_; simp only [N]
    refine wpList_nil ?_
    refine wp_block ?_
    refine wp_loopX (fun m' a' w' => ∃ (f96 : Nat) (fb11 : List UInt8) (fb10 : List UInt8), a' = ⟨#[(ua 0), .bool pso, picks.val, (ua 3), undef, undef, (tq a' 6), .pointer (some ⟨b2, 0, none⟩), undef, (ua 9), (ua 10), undef, (ua 12), bv c13, .pointer (some ⟨bd14, 0, none⟩), (tq a' 15), (tq a' 16), .pointer (some ⟨b10, 0, none⟩), iv v84.2, .pointer (some ⟨b11, 0, none⟩), undef, (tq a' 21), (tq a' 22), (ua 23), (ua 24), (ua 25), undef, (ua 27), (ua 28), (ua 29), (uc 30), (uc 31), (uc 32), (uc 33), (ua 34), (ua 35), (ua 36), (ua 37), (ua 38), (ua 39), (ua 40), (ua 41), (ua 42), (ua 43), (ua 44), (ua 45), (ua 46), (ua 47), (ua 48), (ua 49), (ua 50), (ua 51), (ua 52), (ua 53), (ua 54), (ua 55), (ua 56), (ua 57), (ua 58), (ua 59), (ua 60), (ua 61), (ua 62), (ua 63), (ua 64), (ua 65), (ua 66), (ua 67), (ua 68), (uc 69), (ud 70), (ud 71), (ud 72), (ud 73), (ud 74), (ud 75), (ud 76), (ud 77), (ud 78), (ud 79), (ud 80), (ud 81), (tq a' 82), (tq a' 83), (tq a' 84), (tq a' 85), iv v84.2, (tq a' 87), (tq a' 88), (tq a' 89), (tq a' 90), (tq a' 91), (tq a' 92), (tq a' 93), (⟨xd78_.1, xd78_.2, (bPlayF (progT p arow1) c13 (picks.l.take (min picks.l.length 100))).2.1⟩ : Sl Pass).val, iv (((bPlayF (progT p arow1) c13 (picks.l.take (min picks.l.length 100))).2.1.length : Nat) : Int), iv ((f96 : Nat) : Int), (tq a' 97), (tq a' 98), (tq a' 99), (tq a' 100), (tq a' 101), (tq a' 102), (tq a' 103), (tq a' 104), (tq a' 105), (tq a' 106), (tq a' 107), (tq a' 108), (tq a' 109), (tq a' 110), (tq a' 111), (tq a' 112), (tq a' 113), (tq a' 114), (tq a' 115), (tq a' 116), (tq a' 117), (tq a' 118), (tq a' 119), (tq a' 120), (tq a' 121), (tq a' 122), (tq a' 123), (tq a' 124), (tq a' 125), (tq a' 126), (tq a' 127), (tq a' 128), (tq a' 129), (tq a' 130), (tq a' 131), (tq a' 132), (tq a' 133), undef, undef, undef, undef, undef, undef, undef, undef, undef, undef, undef, undef], []⟩ ∧ Own w [] [SlIn 3 Pass.cells (⟨xd78_.1, xd78_.2, (bPlayF (progT p arow1) c13 (picks.l.take (min picks.l.length 100))).2.1⟩ : Sl Pass), IsProg pq1, SlIn 1 eSlI (⟨fz2.1, fz2.2, arow1h⟩ : Sl (Sl Ins)), fun w => (Res.row ((⟨fz2.1, fz2.2, arow1h⟩ : Sl (Sl Ins)).val) 59 1 arow1h.length (arow1h.flatMap eSlI)).ok w, fun w => ∀ x ∈ arow1h, SlIn 10 Ins.cells x w, IsProg p, SlIn 1 eByte picks, Glob] [.blk b11 (.cells (enc fb11).toArray 41 (0, 0)), .blk b10 (.cells (enc fb10).toArray 41 (0, 0)), .blk bd14 (.cells (enc (bPlayF (progT p arow1) c13 (picks.l.take (min picks.l.length 100))).1).toArray 64 (0, 0)), .blk b2 (.cells (pq1.cells).toArray 29 (0, 0)), .blk b1 (.cells (p.cells).toArray 29 (0, 0))] w' ∧ (fb11.length = 142) ∧ (fb10.length = 142) ∧ (f96 ≤ (bPlayF (progT p arow1) c13 (picks.l.take (min picks.l.length 100))).2.1.length) ∧ (fencedF p pso picks.l) = loopL (fencedF_f p picks.l arow1 c13) (fencedF_fk p picks.l arow1 c13) ((bPlayF (progT p arow1) c13 (picks.l.take (min picks.l.length 100))).2.1.drop f96) (f96, fb11, fb10) ∧ m' = (bPlayF (progT p arow1) c13 (picks.l.take (min picks.l.length 100))).2.1.length - f96) _ ⟨0, v84.1, v84.1, (by kernel_rfl), H, (by first | omega | simp [-List.reduceReplicate] <;> omega | simp [*, -List.reduceReplicate] <;> omega), (by first | omega | simp [-List.reduceReplicate] <;> omega | simp [*, -List.reduceReplicate] <;> omega), (by omega), hFv84.trans (bf hc7), rfl⟩ ?_
    clear H
    rintro _ a_ w27 ⟨f96, fb11, fb10, ha_, H, hif0, hif1, hif2, hFf, rfl⟩
    obtain ⟨uf, hu_⟩ : ∃ uf : Nat → Value, a_ = ⟨#[(ua 0), .bool pso, picks.val, (ua 3), undef, undef, (uf 6), .pointer (some ⟨b2, 0, none⟩), undef, (ua 9), (ua 10), undef, (ua 12), bv c13, .pointer (some ⟨bd14, 0, none⟩), (uf 15), (uf 16), .pointer (some ⟨b10, 0, none⟩), iv v84.2, .pointer (some ⟨b11, 0, none⟩), undef, (uf 21), (uf 22), (ua 23), (ua 24), (ua 25), undef, (ua 27), (ua 28), (ua 29), (uc 30), (uc 31), (uc 32), (uc 33), (ua 34), (ua 35), (ua 36), (ua 37), (ua 38), (ua 39), (ua 40), (ua 41), (ua 42), (ua 43), (ua 44), (ua 45), (ua 46), (ua 47), (ua 48), (ua 49), (ua 50), (ua 51), (ua 52), (ua 53), (ua 54), (ua 55), (ua 56), (ua 57), (ua 58), (ua 59), (ua 60), (ua 61), (ua 62), (ua 63), (ua 64), (ua 65), (ua 66), (ua 67), (ua 68), (uc 69), (ud 70), (ud 71), (ud 72), (ud 73), (ud 74), (ud 75), (ud 76), (ud 77), (ud 78), (ud 79), (ud 80), (ud 81), (uf 82), (uf 83), (uf 84), (uf 85), iv v84.2, (uf 87), (uf 88), (uf 89), (uf 90), (uf 91), (uf 92), (uf 93), (⟨xd78_.1, xd78_.2, (bPlayF (progT p arow1) c13 (picks.l.take (min picks.l.length 100))).2.1⟩ : Sl Pass).val, iv (((bPlayF (progT p arow1) c13 (picks.l.take (min picks.l.length 100))).2.1.length : Nat) : Int), iv ((f96 : Nat) : Int), (uf 97), (uf 98), (uf 99), (uf 100), (uf 101), (uf 102), (uf 103), (uf 104), (uf 105), (uf 106), (uf 107), (uf 108), (uf 109), (uf 110), (uf 111), (uf 112), (uf 113), (uf 114), (uf 115), (uf 116), (uf 117), (uf 118), (uf 119), (uf 120), (uf 121), (uf 122), (uf 123), (uf 124), (uf 125), (uf 126), (uf 127), (uf 128), (uf 129), (uf 130), (uf 131), (uf 132), (uf 133), undef, undef, undef, undef, undef, undef, undef, undef, undef, undef, undef, undef], []⟩ := ⟨fun n => tq a_ n, ha_⟩
    clear ha_; subst hu_
    refine wp_seq ?_; refine wp_region_lit ?_; refine wr (rp_int_lss rfl ((f96 : Nat) : Int) (((bPlayF (progT p arow1) c13 (picks.l.take (min picks.l.length 100))).2.1.length : Nat) : Int) rfl rfl) ?_; simp only [N]
    refine wpList_nil ?_
    refine wp_seq ?_; refine wp_cond_split rfl (fun hc8 => ?_) (fun hc8 => ?_)
    · --T 8
     have hc8N15 : ((f96 : Nat) : Int) < (((bPlayF (progT p arow1) c13 (picks.l.take (min picks.l.length 100))).2.1.length : Nat) : Int) := (by simpa using hc8)
     obtain ⟨rf, hrf⟩ : ∃ r, r = loopL (fencedF_f p picks.l arow1 c13) (fencedF_fk p picks.l arow1 c13) ((bPlayF (progT p arow1) c13 (picks.l.take (min picks.l.length 100))).2.1.drop (f96 + 1)) := ⟨_, rfl⟩
     have hFf2 := hFf.trans (loopL_step (show f96 < (bPlayF (progT p arow1) c13 (picks.l.take (min picks.l.length 100))).2.1.length by omega))
     rw [← hrf] at hFf2
     refine wp_skip ?_
     refine wp_seq ?_; refine wp_block ?_
     refine wp_seq ?_; refine wp_region_lit ?_; refine wr (rp_indexAddr_sl (H.ro_at 0 rfl) rfl Tryz.underlying44 sz50 rfl f96 rfl (by show _ < (bPlayF (progT p arow1) c13 (picks.l.take (min picks.l.length 100))).2.1.length; omega)) ?_; simp only [N]
     refine wr (rp_loadN_sl (H.ro_at 0 rfl) f96 (by show _ < (bPlayF (progT p arow1) c13 (picks.l.take (min picks.l.length 100))).2.1.length; omega) rfl Tryz.underlying50 rfl rfl sz50) ?_; simp only [N]
     refine wl_alloc H rfl rfl zv50 ?_
     clear H; intro b12 w28 hnb12 H; dsimp only [Value.cells] at H
     simp only [N]
     refine wl_storeV H 0 rfl rfl rfl rfl ((((bPlayF (progT p arow1) c13 (picks.l.take (min picks.l.length 100))).2.1.getD f96 default).cells).toArray) rfl (Pass.cells_one _) sz50 ?_
     clear H; intro w29 H; simp only [M] at H
     simp only [N]
     refine wpList_nil ?_
     refine wp_seq ?_; refine wp_region_lit ?_; refine wr (rp_loadN H 4 rfl rfl rfl Tryz.underlying29 rfl sz29 (Nat.le_of_ble_eq_true rfl) (cs' := pq1.cells) rfl) ?_; simp only [N]
     refine wr (rp_loadWA H 2 rfl rfl rfl Tryz.underlying41 rfl sz41 rfl) ?_; simp only [N]
     refine wr (rp_fieldAddr rfl Tryz.underlying50 rfl 0 rfl sz5 rfl 0 rfl) ?_; simp only [N]
     refine wr (rp_load1 H 0 rfl rfl rfl Tryz.underlying5 rfl (v := bv ((bPlayF (progT p arow1) c13 (picks.l.take (min picks.l.length 100))).2.1.getD f96 default).thread) rfl) ?_; simp only [N]
     refine wr (rp_u8_to_int rfl Tryz.underlying5 Tryz.underlying3 ((bPlayF (progT p arow1) c13 (picks.l.take (min picks.l.length 100))).2.1.getD f96 default).thread rfl) ?_; simp only [N]
     refine wl_callE H rfl (rc_go Tryz.func14 (by kernel_rfl) rfl) (by have hq := storeF_spec pq1 fb10 ((((bPlayF (progT p arow1) c13 (picks.l.take (min picks.l.length 100))).2.1.getD f96 default).thread).toNat : Int) (by first | omega | simp [-List.reduceReplicate] <;> omega | simp [*, -List.reduceReplicate] <;> omega) (by omega) (by omega) _ (H.ro_at 1 rfl); rw [show (storeF pq1 fb10 ((((bPlayF (progT p arow1) c13 (picks.l.take (min picks.l.length 100))).2.1.getD f96 default).thread).toNat : Int)) = (storeF (progT p arow1) fb10 ((((bPlayF (progT p arow1) c13 (picks.l.take (min picks.l.length 100))).2.1.getD f96 default).thread).toNat : Int)) from by rw [← storeF_er pq1, show er pq1 = er (progT p arow1) from (hEpq1.trans (progT_er _ _).symm), storeF_er]] at hq; exact hq) ?_
     clear H; intro w30 H
     simp only [N]
     generalize hv105 : (storeF (progT p arow1) fb10 ((((bPlayF (progT p arow1) c13 (picks.l.take (min picks.l.length 100))).2.1.getD f96 default).thread).toNat : Int)) = v105
     have hFv105 : (fencedF p pso picks.l) = fencedF_v105 p picks.l arow1 c13 f96 fb11 fb10 rf v105 := by first | (rw [← hv105]; exact hFf2) | exact hFf2
     refine wmv (.bool v105) ?_; simp only [N]
     refine wl_g (wn_t rfl rfl) (v := .pointer (some ⟨b12, 1, none⟩)) (fun hg => rp_fieldAddr rfl Tryz.underlying50 rfl 1 rfl sz4 rfl 1 rfl) ?_; simp only [N]
     refine wl_g (wn_t rfl rfl) (v := .bool ((bPlayF (progT p arow1) c13 (picks.l.take (min picks.l.length 100))).2.1.getD f96 default).drain) (fun hg => by simp only [gv_t hg]; exact rp_load1 H 0 rfl rfl rfl Tryz.underlying4 rfl (v := .bool ((bPlayF (progT p arow1) c13 (picks.l.take (min picks.l.length 100))).2.1.getD f96 default).drain) rfl) ?_; simp only [N]
     refine wl_g (wn_t rfl rfl) (v := .bool (!((bPlayF (progT p arow1) c13 (picks.l.take (min picks.l.length 100))).2.1.getD f96 default).drain)) (fun hg => by simp only [gv_t hg]; exact rp_not rfl ((bPlayF (progT p arow1) c13 (picks.l.take (min picks.l.length 100))).2.1.getD f96 default).drain rfl) ?_; simp only [N]
     refine wr (rp_pickA rfl (p := v105) (q := (!((bPlayF (progT p arow1) c13 (picks.l.take (min picks.l.length 100))).2.1.getD f96 default).drain)) rfl rfl rfl) ?_; simp only [N]
     refine wasg (.bool (v105 && (!((bPlayF (progT p arow1) c13 (picks.l.take (min picks.l.length 100))).2.1.getD f96 default).drain))) ?_; simp only [N]
     refine wpList_nil ?_
     refine wp_seq ?_; refine wp_seq ?_; refine wp_region_lit ?_; refine wr (rp_loadN H 4 rfl rfl rfl Tryz.underlying29 rfl sz29 (Nat.le_of_ble_eq_true rfl) (cs' := pq1.cells) rfl) ?_; simp only [N]
     refine wmv (bv c13) ?_; simp only [N]
     refine wr (rp_loadWA H 2 rfl rfl rfl Tryz.underlying41 rfl sz41 rfl) ?_; simp only [N]
     refine wr (rp_loadN H 0 rfl rfl rfl Tryz.underlying50 rfl sz50 (Nat.le_of_ble_eq_true rfl) (cs' := ((bPlayF (progT p arow1) c13 (picks.l.take (min picks.l.length 100))).2.1.getD f96 default).cells) rfl) ?_; simp only [N]
     refine wl_callE H rfl (rc_go Tryz.func13 (by kernel_rfl) rfl) (by have hq := bMoveF_spec pq1 c13 fb10 ((bPlayF (progT p arow1) c13 (picks.l.take (min picks.l.length 100))).2.1.getD f96 default) (by first | omega | simp [-List.reduceReplicate] <;> omega | simp [*, -List.reduceReplicate] <;> omega) _ (H.ro_at 1 rfl) (H.ro_at 7 rfl); rw [show (bMoveF pq1 c13 fb10 ((bPlayF (progT p arow1) c13 (picks.l.take (min picks.l.length 100))).2.1.getD f96 default)) = (bMoveF (progT p arow1) c13 fb10 ((bPlayF (progT p arow1) c13 (picks.l.take (min picks.l.length 100))).2.1.getD f96 default)) from by rw [← bMoveF_er pq1, show er pq1 = er (progT p arow1) from (hEpq1.trans (progT_er _ _).symm), bMoveF_er]] at hq; exact hq) ?_
     clear H; intro w31 H
     simp only [N]
     generalize hv116 : (bMoveF (progT p arow1) c13 fb10 ((bPlayF (progT p arow1) c13 (picks.l.take (min picks.l.length 100))).2.1.getD f96 default)) = v116
     have hFv116 : (fencedF p pso picks.l) = fencedF_v116 p picks.l arow1 c13 f96 fb11 v105 rf v116 := by first | (rw [← hv116]; exact hFv105) | exact hFv105
     have hlv116 : (v116.1).length = 142 := by rw [← hv116]; first | omega | simp [-List.reduceReplicate] <;> omega | simp [*, -List.reduceReplicate] <;> omega
     refine wmv (.tuple #[.agg (enc v116.1).toArray, iv v116.2]) ?_; simp only [N]
     refine wr (rp_extract rfl rfl (v := .agg (enc v116.1).toArray) rfl) ?_; simp only [N]
     refine wr (rp_extract rfl rfl (v := iv v116.2) rfl) ?_; simp only [N]
     refine wl_storeA H 2 rfl rfl rfl rfl v116.1 rfl sz41 ?_
     clear H; intro w32 H; simp only [M] at H
     simp only [N]
     refine wasg (iv v116.2) ?_; simp only [N]
     refine wpList_nil ?_
     refine wp_seq ?_; refine wp_region_lit ?_; refine wmv (iv v116.2) ?_; simp only [N]
     refine wr (rp_int_neq rfl v116.2 (0 : Int) rfl rfl) ?_; simp only [N]
     refine wpList_nil ?_
     refine wp_cond_split rfl (fun hc9 => ?_) (fun hc9 => ?_)
     · --T 9
      have hc9N16 : v116.2 ≠ (0 : Int) := (by simpa using hc9)
      refine wp_seq ?_; refine wp_region_lit ?_; refine wasg (.bool false) ?_; simp only [N]
      refine wpList_nil ?_
      refine wp_ret ?_
      try simp only [Exit.inBlock, Exit.then, cutP]
      refine bodyPost_ret (results1 rfl (rv_tmp rfl)) rfl ?_
      have hF : (fencedF p pso picks.l) = false := hFv116.trans (bt hc9)
      rw [hF]
      exact ⟨rfl, H.ext⟩
     · --F 9
      have hc9N17 : v116.2 = (0 : Int) := (by simpa using hc9)
      refine wp_skip ?_
      refine wp_seq ?_; refine wp_seq ?_; refine wp_region_lit ?_; refine wmv (.bool (v105 && (!((bPlayF (progT p arow1) c13 (picks.l.take (min picks.l.length 100))).2.1.getD f96 default).drain))) ?_; simp only [N]
      refine wpList_nil ?_
      refine wp_cond_split rfl (fun hc10 => ?_) (fun hc10 => ?_)
      · --T 10
       refine wp_exit ?_
       refine wp_region_lit ?_; refine wr (rp_int_add rfl ((f96 : Nat) : Int) (1 : Int) rfl rfl (by omega)) ?_; simp only [N]
       refine wmv (iv (((f96 : Nat) : Int) + (1 : Int))) ?_; simp only [N]
       refine wpList_nil ?_
       replace H := H.dropNew 0 rfl (foot_blk hnb12); simp only [m5, m6] at H
       show ∃ n', n' < _ ∧ _
       refine ⟨_, ?_, (f96 + 1), fb11, v116.1, (by kernel_rfl), H, (by first | omega | simp [-List.reduceReplicate] <;> omega | simp [*, -List.reduceReplicate] <;> omega), (by first | omega | simp [-List.reduceReplicate] <;> omega | simp [*, -List.reduceReplicate] <;> omega), (by omega), (hFv116.trans ((bf hc9).trans (bt hc10))).trans (congrFun hrf _), rfl⟩
       omega
      · --F 10
       refine wp_skip ?_
       refine wp_seq ?_; refine wp_region_lit ?_; refine wr (rp_loadN H 4 rfl rfl rfl Tryz.underlying29 rfl sz29 (Nat.le_of_ble_eq_true rfl) (cs' := pq1.cells) rfl) ?_; simp only [N]
       refine wr (rp_loadWA H 1 rfl rfl rfl Tryz.underlying41 rfl sz41 rfl) ?_; simp only [N]
       refine wr (rp_fieldAddr rfl Tryz.underlying50 rfl 0 rfl sz5 rfl 0 rfl) ?_; simp only [N]
       refine wr (rp_load1 H 0 rfl rfl rfl Tryz.underlying5 rfl (v := bv ((bPlayF (progT p arow1) c13 (picks.l.take (min picks.l.length 100))).2.1.getD f96 default).thread) rfl) ?_; simp only [N]
       refine wr (rp_u8_to_int rfl Tryz.underlying5 Tryz.underlying3 ((bPlayF (progT p arow1) c13 (picks.l.take (min picks.l.length 100))).2.1.getD f96 default).thread rfl) ?_; simp only [N]
       refine wl_callE H rfl (rc_go Tryz.func23 (by kernel_rfl) rfl) (by have hq := moveF_spec pq1 fb11 ((((bPlayF (progT p arow1) c13 (picks.l.take (min picks.l.length 100))).2.1.getD f96 default).thread).toNat : Int) (by first | omega | simp [-List.reduceReplicate] <;> omega | simp [*, -List.reduceReplicate] <;> omega) _ (H.ro_at 1 rfl) (H.ro_at 7 rfl); rw [show (moveF pq1 fb11 ((((bPlayF (progT p arow1) c13 (picks.l.take (min picks.l.length 100))).2.1.getD f96 default).thread).toNat : Int)) = (moveF (progT p arow1) fb11 ((((bPlayF (progT p arow1) c13 (picks.l.take (min picks.l.length 100))).2.1.getD f96 default).thread).toNat : Int)) from by rw [← moveF_er pq1, show er pq1 = er (progT p arow1) from (hEpq1.trans (progT_er _ _).symm), moveF_er]] at hq; exact hq) ?_
       clear H; intro w33 H
       simp only [N]
       generalize hv128 : (moveF (progT p arow1) fb11 ((((bPlayF (progT p arow1) c13 (picks.l.take (min picks.l.length 100))).2.1.getD f96 default).thread).toNat : Int)) = v128
       have hFv128 : (fencedF p pso picks.l) = fencedF_v128 f96 v116 rf v128 := by first | (rw [← hv128]; exact hFv116.trans ((bf hc9).trans (bf hc10))) | exact hFv116.trans ((bf hc9).trans (bf hc10))
       have hlv128 : (v128.1).length = 142 := by rw [← hv128]; first | omega | simp [-List.reduceReplicate] <;> omega | simp [*, -List.reduceReplicate] <;> omega
       refine wmv (.tuple #[.agg (enc v128.1).toArray, iv v128.2]) ?_; simp only [N]
       refine wr (rp_extract rfl rfl (v := .agg (enc v128.1).toArray) rfl) ?_; simp only [N]
       refine wr (rp_extract rfl rfl (v := iv v128.2) rfl) ?_; simp only [N]
       refine wl_storeA H 1 rfl rfl rfl rfl v128.1 rfl sz41 ?_
       clear H; intro w34 H; simp only [M] at H
       simp only [N]
       refine wasg (iv v128.2) ?_; simp only [N]
       refine wpList_nil ?_
       refine wp_seq ?_; refine wp_region_lit ?_; refine wmv (iv v128.2) ?_; simp only [N]
       refine wr (rp_int_neq rfl v128.2 (0 : Int) rfl rfl) ?_; simp only [N]
       refine wpList_nil ?_
       refine wp_cond_split rfl (fun hc11 => ?_) (fun hc11 => ?_)
       · --T 11
        have hc11N18 : v128.2 ≠ (0 : Int) := (by simpa using hc11)
        refine wp_seq ?_; refine wp_region_lit ?_; refine wasg (.bool false) ?_; simp only [N]
        refine wpList_nil ?_
        refine wp_ret ?_
        try simp only [Exit.inBlock, Exit.then, cutP]
        refine bodyPost_ret (results1 rfl (rv_tmp rfl)) rfl ?_
        have hF : (fencedF p pso picks.l) = false := hFv128.trans (bt hc11)
        rw [hF]
        exact ⟨rfl, H.ext⟩
       · --F 11
        have hc11N19 : v128.2 = (0 : Int) := (by simpa using hc11)
        refine wp_skip ?_
        refine wp_region_lit ?_; refine wr (rp_int_add rfl ((f96 : Nat) : Int) (1 : Int) rfl rfl (by omega)) ?_; simp only [N]
        refine wmv (iv (((f96 : Nat) : Int) + (1 : Int))) ?_; simp only [N]
        refine wpList_nil ?_
        replace H := H.dropNew 0 rfl (foot_blk hnb12); simp only [m5, m6] at H
        show ∃ n', n' < _ ∧ _
        refine ⟨_, ?_, (f96 + 1), v128.1, v116.1, (by kernel_rfl), H, (by first | omega | simp [-List.reduceReplicate] <;> omega | simp [*, -List.reduceReplicate] <;> omega), (by first | omega | simp [-List.reduceReplicate] <;> omega | simp [*, -List.reduceReplicate] <;> omega), (by omega), (hFv128.trans (bf hc11)).trans (congrFun hrf _), rfl⟩
        omega
    · --F 8
     have hc8N20 : (((bPlayF (progT p arow1) c13 (picks.l.take (min picks.l.length 100))).2.1.length : Nat) : Int) ≤ ((f96 : Nat) : Int) := (by simpa using hc8)
     have hFf2 := hFf.trans (loopL_end (show (bPlayF (progT p arow1) c13 (picks.l.take (min picks.l.length 100))).2.1.length ≤ f96 by omega))
     refine wp_exit ?_
     refine wp_seq ?_; refine wp_region_own H (by kernel_rfl) (by kernel_rfl) ?_
     refine wq_run rfl (fun w H => rp_loadN H 3 rfl rfl rfl Tryz.underlying29 rfl sz29 (Nat.le_of_ble_eq_true rfl) (cs' := pq1.cells) rfl) ?_; simp only [N]
     refine wq_run rfl (fun w H => rp_loadWA H 0 rfl rfl rfl Tryz.underlying41 rfl sz41 rfl) ?_; simp only [N]
     refine wq_call rfl (rc_go Tryz.func24 (by kernel_rfl) rfl) (fun w H => (by have hq := overF_spec pq1 fb11 (by first | omega | simp [-List.reduceReplicate] <;> omega | simp [*, -List.reduceReplicate] <;> omega) _ (H.ro_at 1 rfl) (H.ro_at 7 rfl); rw [show (overF pq1 fb11) = (overF (progT p arow1) fb11) from by rw [← overF_er pq1, show er pq1 = er (progT p arow1) from (hEpq1.trans (progT_er _ _).symm), overF_er]] at hq; exact hq)) ?_; simp only [N]
     generalize hv136 : (overF (progT p arow1) fb11) = v136
     have hFv136 : (fencedF p pso picks.l) = fencedF_v136 p picks.l arow1 c13 fb11 v136 := by first | (rw [← hv136]; exact hFf2) | exact hFf2
     refine wq_run rfl (fun w H => rp_move rfl (v := .bool v136) rfl) ?_; simp only [N]
     refine wq_g (wn_t rfl rfl) (v := .agg (enc fb11).toArray) (fun hg w H => rp_loadWA H 0 rfl rfl rfl Tryz.underlying41 rfl sz41 rfl) ?_; simp only [N]
     refine wq_gE (wn_t rfl rfl) (fun hg => fun w => by simp only [gv_t hg]; exact rc_go Tryz.func20 (by kernel_rfl) rfl w) (v := .agg (enc (finalF fb11)).toArray) (fun hg w H => finalF_spec fb11 (by first | omega | simp [-List.reduceReplicate] <;> omega | simp [*, -List.reduceReplicate] <;> omega) _ ) ?_; simp only [N]
     refine wq_g (wn_t rfl rfl) (v := .agg (enc (bPlayF (progT p arow1) c13 (picks.l.take (min picks.l.length 100))).1).toArray) (fun hg w H => rp_loadWA H 2 rfl rfl rfl Tryz.underlying64 rfl sz64 rfl) ?_; simp only [N]
     refine wq_g (wn_t rfl rfl) (v := .bool (decide ((finalF fb11) = (bPlayF (progT p arow1) c13 (picks.l.take (min picks.l.length 100))).1))) (fun hg w H => by simp only [gv_t hg]; exact rp_eql_leafs rfl 6 (by decide) (by kernel_rfl) (by kernel_rfl) (ks := (List.replicate 38 (.int .u8))) (by kernel_rfl) (xs := enc (finalF fb11)) (ys := enc (bPlayF (progT p arow1) c13 (picks.l.take (min picks.l.length 100))).1) rfl rfl (formed_enc Tryz.underlying64 rfl sz64 (by first | omega | simp [-List.reduceReplicate] <;> omega | simp [*, -List.reduceReplicate] <;> omega)) (formed_enc Tryz.underlying64 rfl sz64 (by first | omega | simp [-List.reduceReplicate] <;> omega | simp [*, -List.reduceReplicate] <;> omega)) (fits_enc (by first | omega | simp [-List.reduceReplicate] <;> omega | simp [*, -List.reduceReplicate] <;> omega)) (fits_enc (by first | omega | simp [-List.reduceReplicate] <;> omega | simp [*, -List.reduceReplicate] <;> omega)) (r := (decide ((finalF fb11) = (bPlayF (progT p arow1) c13 (picks.l.take (min picks.l.length 100))).1))) (by exact enc_iff _ _)) ?_; simp only [N]
     refine wq_run rfl (fun w H => rp_pickA rfl (p := v136) (q := (decide ((finalF fb11) = (bPlayF (progT p arow1) c13 (picks.l.take (min picks.l.length 100))).1))) rfl rfl rfl) ?_; simp only [N]
     refine wq_run rfl (fun w H => rp_move rfl (v := .bool (v136 && (decide ((finalF fb11) = (bPlayF (progT p arow1) c13 (picks.l.take (min picks.l.length 100))).1)))) rfl) ?_; simp only [N]
     refine wq_gE (wn_t rfl rfl) (fun hg => rc_go Tryz.func12 (by kernel_rfl) rfl) (v := .bool true) (fun hg w H => awakeB_spec' _ (H.ro_at 7 rfl)) ?_; simp only [N]
     refine wq_run rfl (fun w H => rp_pickA rfl (p := (v136 && (decide ((finalF fb11) = (bPlayF (progT p arow1) c13 (picks.l.take (min picks.l.length 100))).1)))) (q := true) rfl rfl rfl) ?_; simp only [N]
     refine wq_run rfl (fun w H => rp_assign rfl (v := .bool ((v136 && (decide ((finalF fb11) = (bPlayF (progT p arow1) c13 (picks.l.take (min picks.l.length 100))).1))) && true)) rfl) ?_; simp only [N]
     refine wq_nil ?_
     clear H; intro w35 H
     refine wp_ret ?_
     try simp only [Exit.inBlock, Exit.then, cutP]
     refine bodyPost_ret (results1 rfl (rv_tmp rfl)) rfl ?_
     have hF : (fencedF p pso picks.l) = ((v136 && (decide ((finalF fb11) = (bPlayF (progT p arow1) c13 (picks.l.take (min picks.l.length 100))).1))) && true) := hFv136
     rw [hF]
     exact ⟨rfl, H.ext⟩

end Go.Proofs.YtimonjemjhecoaaGreatDoor
