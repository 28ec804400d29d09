/- Walks, printed by a program of this repository (wip/tool). -/
import Derived.Test.YtimonjemjhecoaaGreatDoorLB2
namespace Go.Proofs.YtimonjemjhecoaaGreatDoor
open Go.RowKit
open Go
attribute [local irreducible] wpList wpQuiet wpX Code.wp
set_option maxHeartbeats 1000000
set_option maxRecDepth 100000
set_option linter.unusedSimpArgs false
set_option linter.unusedVariables false

theorem storeF_pc {p : Prog} {S : List UInt8} {t : Int} (h : storeF p S t = true) : t < (p.threads.l.length : Int) ∧ (S.getD (t.toNat * 9) 0).toNat < (p.threads.l.getD t.toNat default).l.length := by
  unfold storeF at h
  rw [Bool.and_eq_true, Bool.and_eq_true, decide_eq_true_iff, decide_eq_true_iff] at h
  exact ⟨h.1.1, by have := h.1.2; omega⟩

def ownF_d (p : Prog) (picks : List UInt8) (pick : UInt8) (a9 : UInt8) (v67 : (List UInt8) × Int) (v75 : Bool) (b85 : UInt8) (xrd : (Sl Ins)) (rd : Nat → Bool) : Nat → Bool := fun s_ => match s_ with | d134 => bif ((((((d134 : Nat) : Int) != ((((bMovesF p a9 ((bBehindF p a9 picks).1)).getD (pick.toNat % (bMovesF p a9 ((bBehindF p a9 picks).1)).length) default).thread).toNat : Int)) && (v75 && (!((bMovesF p a9 ((bBehindF p a9 picks).1)).getD (pick.toNat % (bMovesF p a9 ((bBehindF p a9 picks).1)).length) default).drain))) && ((seenF v67.1 ((d134 : Nat) : Int) b85) != (seenF ((bBehindF p a9 picks).1) ((d134 : Nat) : Int) b85))) || ((((bBehindF p a9 picks).1.getD (138 + d134) 0) == (0 : UInt8)) && ((seenF ((bBehindF p a9 picks).1) ((d134 : Nat) : Int) b85) != ((bBehindF p a9 picks).1.getD (36 + b85.toNat) 0)))) then false else (rd (d134 + 1))
def ownF_dk (b85 : UInt8) (rb : UInt8 → Bool) : Nat → Bool := fun s_ => match s_ with | d134 => rb (b85 + (1 : UInt8))
def ownF_c (p : Prog) (picks : List UInt8) (pick : UInt8) (a9 : UInt8) (v67 : (List UInt8) × Int) (v75 : Bool) (b85 : UInt8) (v95 : UInt8) (rb : UInt8 → Bool) (c19 : UInt8) : Bool :=
  bif ((((bMovesF p a9 ((bBehindF p a9 picks).1)).getD (pick.toNat % (bMovesF p a9 ((bBehindF p a9 picks).1)).length) default).drain || (v75 && (!((bMovesF p a9 ((bBehindF p a9 picks).1)).getD (pick.toNat % (bMovesF p a9 ((bBehindF p a9 picks).1)).length) default).drain))) && (v95 != c19)) then false else (loopL (ownF_d p picks pick a9 v67 v75 b85) (ownF_dk b85 rb) p.threads.l 0)
def ownF_v95 (p : Prog) (picks : List UInt8) (pick : UInt8) (a9 : UInt8) (v67 : (List UInt8) × Int) (v75 : Bool) (b85 : UInt8) (v91 : UInt8) (rb : UInt8 → Bool) (v95 : UInt8) : Bool :=
  bif (v75 && (!((bMovesF p a9 ((bBehindF p a9 picks).1)).getD (pick.toNat % (bMovesF p a9 ((bBehindF p a9 picks).1)).length) default).drain)) then (bif (((p.threads.l.getD ((((bMovesF p a9 ((bBehindF p a9 picks).1)).getD (pick.toNat % (bMovesF p a9 ((bBehindF p a9 picks).1)).length) default).thread).toNat) default).l.getD (((bBehindF p a9 picks).1.getD ((((bMovesF p a9 ((bBehindF p a9 picks).1)).getD (pick.toNat % (bMovesF p a9 ((bBehindF p a9 picks).1)).length) default).thread).toNat * 9) 0).toNat) default).loc == b85) then (ownF_c p picks pick a9 v67 v75 b85 v95 rb (worth ((p.threads.l.getD ((((bMovesF p a9 ((bBehindF p a9 picks).1)).getD (pick.toNat % (bMovesF p a9 ((bBehindF p a9 picks).1)).length) default).thread).toNat) default).l.getD (((bBehindF p a9 picks).1.getD ((((bMovesF p a9 ((bBehindF p a9 picks).1)).getD (pick.toNat % (bMovesF p a9 ((bBehindF p a9 picks).1)).length) default).thread).toNat * 9) 0).toNat) default).a (((bBehindF p a9 picks).1.drop ((((bMovesF p a9 ((bBehindF p a9 picks).1)).getD (pick.toNat % (bMovesF p a9 ((bBehindF p a9 picks).1)).length) default).thread).toNat * 9 + 1)).take 8))) else (ownF_c p picks pick a9 v67 v75 b85 v95 rb v91)) else (ownF_c p picks pick a9 v67 v75 b85 v95 rb v91)
def ownF_v91 (p : Prog) (picks : List UInt8) (pick : UInt8) (a9 : UInt8) (v67 : (List UInt8) × Int) (v75 : Bool) (b85 : UInt8) (rb : UInt8 → Bool) (v91 : UInt8) : Bool :=
  ownF_v95 p picks pick a9 v67 v75 b85 v91 rb (seenF v67.1 ((((bMovesF p a9 ((bBehindF p a9 picks).1)).getD (pick.toNat % (bMovesF p a9 ((bBehindF p a9 picks).1)).length) default).thread).toNat : Int) b85)
def ownF_b (p : Prog) (picks : List UInt8) (pick : UInt8) (a9 : UInt8) (v67 : (List UInt8) × Int) (v75 : Bool) (rb : UInt8 → Bool) : UInt8 → Bool := fun s_ => match s_ with | b85 => bif (decide (b85 < (UInt8.ofNat (((p.locs.l.length : Nat) : Int) % 256).toNat))) then (ownF_v91 p picks pick a9 v67 v75 b85 rb (seenF ((bBehindF p a9 picks).1) ((((bMovesF p a9 ((bBehindF p a9 picks).1)).getD (pick.toNat % (bMovesF p a9 ((bBehindF p a9 picks).1)).length) default).thread).toNat : Int) b85)) else true
def ownF_v75 (p : Prog) (picks : List UInt8) (pick : UInt8) (a9 : UInt8) (v67 : (List UInt8) × Int) (v75 : Bool) : Bool :=
  loopF (ownF_b p picks pick a9 v67 v75) 256 (0 : UInt8)
def ownF_v67 (p : Prog) (picks : List UInt8) (pick : UInt8) (a9 : UInt8) (v67 : (List UInt8) × Int) : Bool :=
  bif (v67.2 != (0 : Int)) then false else (ownF_v75 p picks pick a9 v67 (storeF p ((bBehindF p a9 picks).1) ((((bMovesF p a9 ((bBehindF p a9 picks).1)).getD (pick.toNat % (bMovesF p a9 ((bBehindF p a9 picks).1)).length) default).thread).toNat : Int)))
def ownF_a (p : Prog) (picks : List UInt8) (pick : UInt8) (a9 : UInt8) : Bool :=
  bif ((!(bBehindF p a9 picks).2) || ((((bMovesF p a9 ((bBehindF p a9 picks).1)).length : Nat) : Int) == (0 : Int))) then (((bBehindF p a9 picks).2 || ((rightF p) != (0 : Int))) && true) else (ownF_v67 p picks pick a9 (bMoveF p a9 ((bBehindF p a9 picks).1) ((bMovesF p a9 ((bBehindF p a9 picks).1)).getD (pick.toNat % (bMovesF p a9 ((bBehindF p a9 picks).1)).length) default)))
def ownF (p : Prog) (pso : Bool) (picks : List UInt8) (pick : UInt8) : Bool :=
  bif pso then (ownF_a p picks pick (3 : UInt8)) else (ownF_a p picks pick (2 : UInt8))


theorem ownF_spec (p : Prog) (pso : Bool) (picks : Sl UInt8) (pick : UInt8) (w : World) (hp : (IsProg p) w) (hpicks : (SlIn 1 eByte picks) w) (hg_ : Glob w) :
    Calls Tryz.prog 3 #[.agg p.cells.toArray, .bool pso, picks.val, bv pick] w fun e w' => e = .returned (.bool (ownF p pso picks.l pick)) ∧ Ext w w' := by
 have H := Own.start_ro w [IsProg p, SlIn 1 eByte picks, Glob] (List.forall_mem_cons.2 ⟨fun w' hw => hp.keep hw, List.forall_mem_cons.2 ⟨fun w' hw => hpicks.keep hw, List.forall_mem_cons.2 ⟨fun w' hw => hg_.keep hw, fun _ h => by cases h⟩⟩⟩)
 have hcp1 := hp.locs.2.2
 have hcp2 := hp.init.2.2
 have hcp3 := hp.threads.2.2
 have hcpicks := hpicks.2.2
 go_enter Tryz.func3, Tryz.ntmps3
 refine wp_seq ?_; refine wp_region_lit ?_; refine wl_box H rfl rfl (v := .agg (p.cells).toArray) rfl ?_
 clear H; intro b1 w1 hnb1 H; dsimp only [Value.cells] at H
 simp only [N]
 refine wasg (.bool false) ?_; simp only [N]
 refine wpList_nil ?_
 refine wp_seq ?_; refine wp_region_lit ?_; refine wasg (bv (2 : UInt8)) ?_; simp only [N]
 refine wpList_nil ?_
 refine wp_seq ?_; refine wp_cutX (fun a' w' => ∃ (a9 : UInt8), a' = ⟨#[(tq a' 0), .bool pso, picks.val, bv pick, .pointer (some ⟨b1, 0, none⟩), undef, undef, undef, (tq a' 8), bv a9, undef, undef, undef, undef, undef, undef, undef, undef, undef, undef, undef, undef, undef, (tq a' 23), undef, undef, undef, undef, undef, undef, undef, undef, undef, undef, undef, undef, undef, undef, undef, undef, undef, undef, undef, undef, undef, undef, undef, undef, undef, undef, undef, undef, undef, undef, undef, undef, undef, undef, undef, undef, undef, undef, undef, undef, undef, undef, undef, undef, undef, undef, undef, undef, undef, undef, undef, undef, undef, undef, undef, undef, undef, undef, undef, undef, undef, undef, undef, undef, undef, undef, undef, undef, undef, undef, undef, undef, undef, undef, undef, undef, undef, undef, undef, undef, undef, undef, undef, undef, undef, undef, undef, undef, undef, undef, undef, undef, undef, undef, undef, undef, undef, undef, undef, undef, undef, undef, undef, undef, undef, undef, undef, undef, undef, undef, undef, undef, undef, undef, undef, undef, undef, undef, undef, undef, undef, undef, undef, undef, undef, undef, undef, undef, undef, undef, undef, undef, undef, undef, undef, undef, undef, undef, undef, undef, undef, undef, undef, undef, undef, undef, undef, undef, undef, undef, undef], []⟩ ∧ Own w [] [IsProg p, SlIn 1 eByte picks, Glob] [.blk b1 (.cells (p.cells).toArray 29 (0, 0))] w' ∧ (ownF p pso picks.l pick) = ownF_a p picks.l pick a9) ?_ ?_
 ·
  refine wp_seq ?_; refine wp_region_lit ?_; refine wmv (.bool pso) ?_; simp only [N]
  refine wpList_nil ?_
  refine wp_cond_split rfl (fun hc1 => ?_) (fun hc1 => ?_)
  · --T 1
   refine wp_region_lit ?_; refine wasg (bv (3 : UInt8)) ?_; simp only [N]
   refine wpList_nil ?_
   exact ⟨(3 : UInt8), (by kernel_rfl), H, bt hc1⟩
  · --F 1
   refine wp_skip ?_
   exact ⟨(2 : UInt8), (by kernel_rfl), H, bf hc1⟩
 clear H
 rintro a_ w2 ⟨a9, ha_, H, hFa⟩
 obtain ⟨ua, hu_⟩ : ∃ ua : Nat → Value, a_ = ⟨#[(ua 0), .bool pso, picks.val, bv pick, .pointer (some ⟨b1, 0, none⟩), undef, undef, undef, (ua 8), bv a9, undef, undef, undef, undef, undef, undef, undef, undef, undef, undef, undef, undef, undef, (ua 23), undef, undef, undef, undef, undef, undef, undef, undef, undef, undef, undef, undef, undef, undef, undef, undef, undef, undef, undef, undef, undef, undef, undef, undef, undef, undef, undef, undef, undef, undef, undef, undef, undef, undef, undef, undef, undef, undef, undef, undef, undef, undef, undef, undef, undef, undef, undef, undef, undef, undef, undef, undef, undef, undef, undef, undef, undef, undef, undef, undef, undef, undef, undef, undef, undef, undef, undef, undef, undef, undef, undef, undef, undef, undef, undef, undef, undef, undef, undef, undef, undef, undef, undef, undef, undef, undef, undef, undef, undef, undef, undef, undef, undef, undef, undef, undef, undef, undef, undef, undef, undef, undef, undef, undef, undef, undef, undef, undef, undef, undef, undef, undef, undef, undef, undef, undef, undef, undef, undef, undef, undef, undef, undef, undef, undef, undef, undef, undef, undef, undef, undef, undef, undef, undef, undef, undef, undef, undef, undef, undef, undef, undef, undef, undef, undef, undef, undef, undef, undef, undef, undef], []⟩ := ⟨fun n => tq a_ n, ha_⟩
 clear ha_; subst hu_
 refine wp_seq ?_; refine wp_region_lit ?_; refine wr (rp_loadN H 0 rfl rfl rfl Tryz.underlying29 rfl sz29 (Nat.le_of_ble_eq_true rfl) (cs' := p.cells) rfl) ?_; simp only [N]
 refine wmv (bv a9) ?_; simp only [N]
 refine wmv (picks.val) ?_; simp only [N]
 refine wl_callE H rfl (rc_go Tryz.func9 (by kernel_rfl) rfl) (bBehindF_spec p a9 picks _ (H.ro_at 0 rfl) (H.ro_at 1 rfl) (H.ro_at 2 rfl)) ?_
 clear H; intro w3 H
 simp only [N]
 refine wmv (.tuple #[.agg (enc (bBehindF p a9 picks.l).1).toArray, .bool (bBehindF p a9 picks.l).2]) ?_; simp only [N]
 refine wr (rp_extract rfl rfl (v := .agg (enc (bBehindF p a9 picks.l).1).toArray) rfl) ?_; simp only [N]
 refine wr (rp_extract rfl rfl (v := .bool (bBehindF p a9 picks.l).2) rfl) ?_; simp only [N]
 refine wl_alloc H rfl rfl zv41 ?_
 clear H; intro b2 w4 hnb2 H; dsimp only [Value.cells] at H
 simp only [N]
 simp only [enc_replicate] at H
 refine wl_storeW H 0 rfl rfl rfl rfl (vs := (enc (bBehindF p a9 picks.l).1).toArray) rfl (fun v hv => enc_one v (by simpa using hv)) (by first | (rw [sz41]; congr 1; done) | (rw [sz41]; congr 1; first | omega | (simp only [enc_length, List.size_toArray, List.length_set, List.length_append, List.length_take, List.length_drop, List.length_replicate]; omega) | (simp [-List.reduceReplicate]; done) | (simp [-List.reduceReplicate]; omega) | (simp [*, -List.reduceReplicate]; done) | (simp [*, -List.reduceReplicate]; omega))) (by first | omega | (simp only [enc_length, List.size_toArray, List.length_set, List.length_append, List.length_take, List.length_drop, List.length_replicate]; omega) | (simp [-List.reduceReplicate]; done) | (simp [-List.reduceReplicate]; omega) | (simp [*, -List.reduceReplicate]; done) | (simp [*, -List.reduceReplicate]; omega)) ?_
 clear H; intro w5 H; simp only [M] at H
 simp only [N]
 refine wasg (.bool (bBehindF p a9 picks.l).2) ?_; simp only [N]
 refine wpList_nil ?_
 refine wp_seq ?_; refine wp_region_lit ?_; refine wr (rp_loadN H 1 rfl rfl rfl Tryz.underlying29 rfl sz29 (Nat.le_of_ble_eq_true rfl) (cs' := p.cells) rfl) ?_; simp only [N]
 refine wmv (bv a9) ?_; simp only [N]
 refine wr (rp_loadWe H 0 rfl rfl rfl Tryz.underlying41 rfl (by first | exact sz41 | (rw [sz41]; congr 1; first | omega | (simp only [enc_length, List.size_toArray, List.length_set, List.length_append, List.length_take, List.length_drop, List.length_replicate]; omega) | (simp [-List.reduceReplicate]; done) | (simp [-List.reduceReplicate]; omega) | (simp [*, -List.reduceReplicate]; done) | (simp [*, -List.reduceReplicate]; omega))) rfl) ?_; simp only [N]
 refine wl_callFA H rfl (rc_go Tryz.func10 (by kernel_rfl) rfl) (bMovesF_spec p a9 ((bBehindF p a9 picks.l).1) (by first | omega | (simp only [enc_length, List.size_toArray, List.length_set, List.length_append, List.length_take, List.length_drop, List.length_replicate]; omega) | (simp [-List.reduceReplicate]; done) | (simp [-List.reduceReplicate]; omega) | (simp [*, -List.reduceReplicate]; done) | (simp [*, -List.reduceReplicate]; omega)) _ (H.ro_at 0 rfl) (H.ro_at 2 rfl)) ?_
 clear H; intro x1_ w6 H
 simp only [N]
 have hcx1_0 : (bMovesF p a9 ((bBehindF p a9 picks.l).1)).length ≤ 140737488355328 := (FreshAt.now (H.ro_at 0 rfl)).2.2.1
 refine wasg ((⟨x1_.1, x1_.2, (bMovesF p a9 ((bBehindF p a9 picks.l).1))⟩ : Sl Pass).val) ?_; simp only [N]
 refine wpList_nil ?_
 refine wp_seq ?_; refine wp_seq ?_; refine wp_region_lit ?_; refine wmv (.bool (bBehindF p a9 picks.l).2) ?_; simp only [N]
 refine wr (rp_not rfl (bBehindF p a9 picks.l).2 rfl) ?_; simp only [N]
 refine wmv (.bool (!(bBehindF p a9 picks.l).2)) ?_; simp only [N]
 refine wl_g (wn_f rfl rfl) (v := (⟨x1_.1, x1_.2, (bMovesF p a9 ((bBehindF p a9 picks.l).1))⟩ : Sl Pass).val) (fun hg => rp_move rfl (v := (⟨x1_.1, x1_.2, (bMovesF p a9 ((bBehindF p a9 picks.l).1))⟩ : Sl Pass).val) rfl) ?_; simp only [N]
 refine wl_g (wn_f rfl rfl) (v := iv (((bMovesF p a9 ((bBehindF p a9 picks.l).1)).length : Nat) : Int)) (fun hg => by simp only [gv_t hg]; exact rp_len_sl (s := (⟨x1_.1, x1_.2, (bMovesF p a9 ((bBehindF p a9 picks.l).1))⟩ : Sl Pass)) Tryz.underlying44 rfl) ?_; simp only [N]
 refine wl_g (wn_f rfl rfl) (v := .bool ((((bMovesF p a9 ((bBehindF p a9 picks.l).1)).length : Nat) : Int) == (0 : Int))) (fun hg => by simp only [gv_t hg]; exact rp_int_eql rfl (((bMovesF p a9 ((bBehindF p a9 picks.l).1)).length : Nat) : Int) (0 : Int) rfl rfl) ?_; simp only [N]
 refine wr (rp_pickO rfl (p := (!(bBehindF p a9 picks.l).2)) (q := ((((bMovesF p a9 ((bBehindF p a9 picks.l).1)).length : Nat) : Int) == (0 : Int))) rfl rfl rfl) ?_; simp only [N]
 refine wpList_nil ?_
 refine wp_cond_split rfl (fun hc2 => ?_) (fun hc2 => ?_)
 · --T 2
  refine wp_seq ?_; refine wp_region_lit ?_; refine wmv (.bool (bBehindF p a9 picks.l).2) ?_; simp only [N]
  refine wmv (.bool (bBehindF p a9 picks.l).2) ?_; simp only [N]
  refine wl_g (wn_f rfl rfl) (v := .agg (p.cells).toArray) (fun hg => rp_loadN H 1 rfl rfl rfl Tryz.underlying29 rfl sz29 (Nat.le_of_ble_eq_true rfl) (cs' := p.cells) rfl) ?_; simp only [N]
  refine wl_gE H (wn_f rfl rfl) (fun hg => fun w => by simp only [gv_t hg]; exact rc_go Tryz.func11 (by kernel_rfl) rfl w) (v := iv (rightF p)) (fun hg => rightF_spec p _ (H.ro_at 1 rfl) (H.ro_at 3 rfl)) ?_
  clear H; intro w7 H
  simp only [N]
  refine wl_g (wn_f rfl rfl) (v := .bool ((rightF p) != (0 : Int))) (fun hg => by simp only [gv_t hg]; exact rp_int_neq rfl (rightF p) (0 : Int) rfl rfl) ?_; simp only [N]
  refine wr (rp_pickO rfl (p := (bBehindF p a9 picks.l).2) (q := ((rightF p) != (0 : Int))) rfl rfl rfl) ?_; simp only [N]
  refine wmv (.bool ((bBehindF p a9 picks.l).2 || ((rightF p) != (0 : Int)))) ?_; simp only [N]
  refine wl_gE H (wn_t rfl rfl) (fun hg => rc_go Tryz.func12 (by kernel_rfl) rfl) (v := .bool true) (fun hg => awakeB_spec' _ (H.ro_at 3 rfl)) ?_
  clear H; intro w8 H
  simp only [N]
  refine wr (rp_pickA rfl (p := ((bBehindF p a9 picks.l).2 || ((rightF p) != (0 : Int)))) (q := true) rfl rfl rfl) ?_; simp only [N]
  refine wasg (.bool (((bBehindF p a9 picks.l).2 || ((rightF p) != (0 : Int))) && true)) ?_; simp only [N]
  refine wpList_nil ?_
  refine wp_ret ?_
  try simp only [Exit.inBlock, Exit.then, cutP]
  refine bodyPost_ret (results1 rfl (rv_tmp rfl)) rfl ?_
  have hF : (ownF p pso picks.l pick) = (((bBehindF p a9 picks.l).2 || ((rightF p) != (0 : Int))) && true) := hFa.trans (bt hc2)
  rw [hF]
  exact ⟨rfl, H.ext⟩
 · --F 2
  have hc2N1 : (((bMovesF p a9 ((bBehindF p a9 picks.l).1)).length : Nat) : Int) ≠ (0 : Int) := (by simpa using (orr hc2))
  have hbl := bBehindF_len0 p a9 picks.l
  have hA := bmoves_at (p := p) (mach := a9) hbl (k := pick.toNat % (bMovesF p a9 (bBehindF p a9 picks.l).1).length) (Nat.mod_lt _ (by omega))
  have hpf := pass_facts hA.1 hA.2
  have hl4 := hA.1.ok.threads.2
  have hlc := hA.1.ok.locs
  have hpf1 := hpf.1
  have hpf2 := hpf.2.1
  refine wp_skip ?_
  refine wp_seq ?_; refine wp_region_lit ?_; refine wmv ((⟨x1_.1, x1_.2, (bMovesF p a9 ((bBehindF p a9 picks.l).1))⟩ : Sl Pass).val) ?_; simp only [N]
  refine wmv (bv pick) ?_; simp only [N]
  refine wr (rp_u8_to_int rfl Tryz.underlying5 Tryz.underlying3 pick rfl) ?_; simp only [N]
  refine wmv ((⟨x1_.1, x1_.2, (bMovesF p a9 ((bBehindF p a9 picks.l).1))⟩ : Sl Pass).val) ?_; simp only [N]
  refine wr (rp_len_sl (s := (⟨x1_.1, x1_.2, (bMovesF p a9 ((bBehindF p a9 picks.l).1))⟩ : Sl Pass)) Tryz.underlying44 rfl) ?_; simp only [N]
  have hrem56 : (pick.toNat % (bMovesF p a9 ((bBehindF p a9 picks.l).1)).length) < (bMovesF p a9 ((bBehindF p a9 picks.l).1)).length := Nat.mod_lt _ (by omega)
  refine wr (rp_int_rem rfl (pick.toNat) ((bMovesF p a9 ((bBehindF p a9 picks.l).1)).length) rfl rfl (by omega)) ?_; simp only [N]
  refine wr (rp_indexAddr_sl (FreshAt.now (H.ro_at 0 rfl)) rfl Tryz.underlying44 sz50 rfl (pick.toNat % (bMovesF p a9 ((bBehindF p a9 picks.l).1)).length) rfl (by show _ < (bMovesF p a9 ((bBehindF p a9 picks.l).1)).length; omega)) ?_; simp only [N]
  refine wr (rp_loadN_sl (FreshAt.now (H.ro_at 0 rfl)) (pick.toNat % (bMovesF p a9 ((bBehindF p a9 picks.l).1)).length) (by show _ < (bMovesF p a9 ((bBehindF p a9 picks.l).1)).length; omega) rfl Tryz.underlying50 rfl rfl sz50) ?_; simp only [N]
  refine wl_alloc H rfl rfl zv50 ?_
  clear H; intro b3 w9 hnb3 H; dsimp only [Value.cells] at H
  simp only [N]
  refine wl_storeW H 0 rfl rfl rfl rfl (vs := (((bMovesF p a9 ((bBehindF p a9 picks.l).1)).getD (pick.toNat % (bMovesF p a9 ((bBehindF p a9 picks.l).1)).length) default).cells).toArray) rfl (Pass.cells_one _) (by first | exact sz50 | (rw [sz50]; congr 1; first | omega | (simp only [enc_length, List.size_toArray, List.length_set, List.length_append, List.length_take, List.length_drop, List.length_replicate]; omega) | (simp [-List.reduceReplicate]; done) | (simp [-List.reduceReplicate]; omega) | (simp [*, -List.reduceReplicate]; done) | (simp [*, -List.reduceReplicate]; omega))) (by first | rfl | first | omega | (simp only [enc_length, List.size_toArray, List.length_set, List.length_append, List.length_take, List.length_drop, List.length_replicate]; omega) | (simp [-List.reduceReplicate]; done) | (simp [-List.reduceReplicate]; omega) | (simp [*, -List.reduceReplicate]; done) | (simp [*, -List.reduceReplicate]; omega)) ?_
  clear H; intro w10 H; simp only [M] at H
  simp only [N]
  refine wpList_nil ?_
  refine wp_seq ?_; refine wp_region_lit ?_; refine wr (rp_fieldAddr rfl Tryz.underlying50 rfl 0 rfl sz5 rfl 0 rfl) ?_; simp only [N]
  refine wr (rp_load1 H 0 rfl rfl rfl Tryz.underlying5 rfl (v := bv ((bMovesF p a9 ((bBehindF p a9 picks.l).1)).getD (pick.toNat % (bMovesF p a9 ((bBehindF p a9 picks.l).1)).length) default).thread) rfl) ?_; simp only [N]
  refine wr (rp_u8_to_int rfl Tryz.underlying5 Tryz.underlying3 ((bMovesF p a9 ((bBehindF p a9 picks.l).1)).getD (pick.toNat % (bMovesF p a9 ((bBehindF p a9 picks.l).1)).length) default).thread rfl) ?_; simp only [N]
  refine wasg (iv ((((bMovesF p a9 ((bBehindF p a9 picks.l).1)).getD (pick.toNat % (bMovesF p a9 ((bBehindF p a9 picks.l).1)).length) default).thread).toNat : Int)) ?_; simp only [N]
  refine wpList_nil ?_
  refine wp_seq ?_; refine wp_region_lit ?_; refine wr (rp_loadN H 2 rfl rfl rfl Tryz.underlying29 rfl sz29 (Nat.le_of_ble_eq_true rfl) (cs' := p.cells) rfl) ?_; simp only [N]
  refine wmv (bv a9) ?_; simp only [N]
  refine wr (rp_loadWe H 1 rfl rfl rfl Tryz.underlying41 rfl (by first | exact sz41 | (rw [sz41]; congr 1; first | omega | (simp only [enc_length, List.size_toArray, List.length_set, List.length_append, List.length_take, List.length_drop, List.length_replicate]; omega) | (simp [-List.reduceReplicate]; done) | (simp [-List.reduceReplicate]; omega) | (simp [*, -List.reduceReplicate]; done) | (simp [*, -List.reduceReplicate]; omega))) rfl) ?_; simp only [N]
  refine wr (rp_loadN H 0 rfl rfl rfl Tryz.underlying50 rfl sz50 (Nat.le_of_ble_eq_true rfl) (cs' := ((bMovesF p a9 ((bBehindF p a9 picks.l).1)).getD (pick.toNat % (bMovesF p a9 ((bBehindF p a9 picks.l).1)).length) default).cells) rfl) ?_; simp only [N]
  refine wl_callE H rfl (rc_go Tryz.func13 (by kernel_rfl) rfl) (bMoveF_spec p a9 ((bBehindF p a9 picks.l).1) ((bMovesF p a9 ((bBehindF p a9 picks.l).1)).getD (pick.toNat % (bMovesF p a9 ((bBehindF p a9 picks.l).1)).length) default) (by first | omega | (simp only [enc_length, List.size_toArray, List.length_set, List.length_append, List.length_take, List.length_drop, List.length_replicate]; omega) | (simp [-List.reduceReplicate]; done) | (simp [-List.reduceReplicate]; omega) | (simp [*, -List.reduceReplicate]; done) | (simp [*, -List.reduceReplicate]; omega)) _ (H.ro_at 1 rfl) (H.ro_at 3 rfl)) ?_
  clear H; intro w11 H
  simp only [N]
  generalize hv67 : (bMoveF p a9 ((bBehindF p a9 picks.l).1) ((bMovesF p a9 ((bBehindF p a9 picks.l).1)).getD (pick.toNat % (bMovesF p a9 ((bBehindF p a9 picks.l).1)).length) default)) = v67
  have hFv67 : (ownF p pso picks.l pick) = ownF_v67 p picks.l pick a9 v67 := by first | (rw [← hv67]; exact hFa.trans (bf hc2)) | exact hFa.trans (bf hc2)
  have hlv67 : (v67.1).length = 142 := by rw [← hv67]; first | omega | (simp only [enc_length, List.size_toArray, List.length_set, List.length_append, List.length_take, List.length_drop, List.length_replicate]; omega) | (simp [-List.reduceReplicate]; done) | (simp [-List.reduceReplicate]; omega) | (simp [*, -List.reduceReplicate]; done) | (simp [*, -List.reduceReplicate]; omega)
  refine wmv (.tuple #[.agg (enc v67.1).toArray, iv v67.2]) ?_; simp only [N]
  refine wr (rp_extract rfl rfl (v := .agg (enc v67.1).toArray) rfl) ?_; simp only [N]
  refine wr (rp_extract rfl rfl (v := iv v67.2) rfl) ?_; simp only [N]
  refine wl_alloc H rfl rfl zv41 ?_
  clear H; intro b4 w12 hnb4 H; dsimp only [Value.cells] at H
  simp only [N]
  simp only [enc_replicate] at H
  refine wl_storeW H 0 rfl rfl rfl rfl (vs := (enc v67.1).toArray) rfl (fun v hv => enc_one v (by simpa using hv)) (by first | (rw [sz41]; congr 1; done) | (rw [sz41]; congr 1; first | omega | (simp only [enc_length, List.size_toArray, List.length_set, List.length_append, List.length_take, List.length_drop, List.length_replicate]; omega) | (simp [-List.reduceReplicate]; done) | (simp [-List.reduceReplicate]; omega) | (simp [*, -List.reduceReplicate]; done) | (simp [*, -List.reduceReplicate]; omega))) (by first | omega | (simp only [enc_length, List.size_toArray, List.length_set, List.length_append, List.length_take, List.length_drop, List.length_replicate]; omega) | (simp [-List.reduceReplicate]; done) | (simp [-List.reduceReplicate]; omega) | (simp [*, -List.reduceReplicate]; done) | (simp [*, -List.reduceReplicate]; omega)) ?_
  clear H; intro w13 H; simp only [M] at H
  simp only [N]
  refine wasg (iv v67.2) ?_; simp only [N]
  refine wpList_nil ?_
  refine wp_seq ?_; refine wp_seq ?_; refine wp_region_lit ?_; refine wmv (iv v67.2) ?_; simp only [N]
  refine wr (rp_int_neq rfl v67.2 (0 : Int) rfl rfl) ?_; simp only [N]
  refine wpList_nil ?_
  refine wp_cond_split rfl (fun hc3 => ?_) (fun hc3 => ?_)
  · --T 3
   have hc3N2 : v67.2 ≠ (0 : Int) := (by simpa using hc3)
   refine wp_seq ?_; refine wp_region_lit ?_; refine wasg (.bool false) ?_; simp only [N]
   refine wpList_nil ?_
   refine wp_ret ?_
   try simp only [Exit.inBlock, Exit.then, cutP]
   refine bodyPost_ret (results1 rfl (rv_tmp rfl)) rfl ?_
   have hF : (ownF p pso picks.l pick) = false := hFv67.trans (bt hc3)
   rw [hF]
   exact ⟨rfl, H.ext⟩
  · --F 3
   have hc3N3 : v67.2 = (0 : Int) := (by simpa using hc3)
   refine wp_skip ?_
   refine wp_seq ?_; refine wp_region_lit ?_; refine wr (rp_loadN H 3 rfl rfl rfl Tryz.underlying29 rfl sz29 (Nat.le_of_ble_eq_true rfl) (cs' := p.cells) rfl) ?_; simp only [N]
   refine wr (rp_loadWe H 2 rfl rfl rfl Tryz.underlying41 rfl (by first | exact sz41 | (rw [sz41]; congr 1; first | omega | (simp only [enc_length, List.size_toArray, List.length_set, List.length_append, List.length_take, List.length_drop, List.length_replicate]; omega) | (simp [-List.reduceReplicate]; done) | (simp [-List.reduceReplicate]; omega) | (simp [*, -List.reduceReplicate]; done) | (simp [*, -List.reduceReplicate]; omega))) rfl) ?_; simp only [N]
   refine wmv (iv ((((bMovesF p a9 ((bBehindF p a9 picks.l).1)).getD (pick.toNat % (bMovesF p a9 ((bBehindF p a9 picks.l).1)).length) default).thread).toNat : Int)) ?_; simp only [N]
   refine wl_callE H rfl (rc_go Tryz.func14 (by kernel_rfl) rfl) (storeF_spec p ((bBehindF p a9 picks.l).1) ((((bMovesF p a9 ((bBehindF p a9 picks.l).1)).getD (pick.toNat % (bMovesF p a9 ((bBehindF p a9 picks.l).1)).length) default).thread).toNat : Int) (by first | omega | (simp only [enc_length, List.size_toArray, List.length_set, List.length_append, List.length_take, List.length_drop, List.length_replicate]; omega) | (simp [-List.reduceReplicate]; done) | (simp [-List.reduceReplicate]; omega) | (simp [*, -List.reduceReplicate]; done) | (simp [*, -List.reduceReplicate]; omega)) (by omega) (by omega) _ (H.ro_at 1 rfl)) ?_
   clear H; intro w14 H
   simp only [N]
   generalize hv75 : (storeF p ((bBehindF p a9 picks.l).1) ((((bMovesF p a9 ((bBehindF p a9 picks.l).1)).getD (pick.toNat % (bMovesF p a9 ((bBehindF p a9 picks.l).1)).length) default).thread).toNat : Int)) = v75
   have hFv75 : (ownF p pso picks.l pick) = ownF_v75 p picks.l pick a9 v67 v75 := by first | (rw [← hv75]; exact hFv67.trans (bf hc3)) | exact hFv67.trans (bf hc3)
   refine wmv (.bool v75) ?_; simp only [N]
   refine wl_g (wn_t rfl rfl) (v := .pointer (some ⟨b3, 1, none⟩)) (fun hg => rp_fieldAddr rfl Tryz.underlying50 rfl 1 rfl sz4 rfl 1 rfl) ?_; simp only [N]
   refine wl_g (wn_t rfl rfl) (v := .bool ((bMovesF p a9 ((bBehindF p a9 picks.l).1)).getD (pick.toNat % (bMovesF p a9 ((bBehindF p a9 picks.l).1)).length) default).drain) (fun hg => by simp only [gv_t hg]; exact rp_load1 H 1 rfl rfl rfl Tryz.underlying4 rfl (v := .bool ((bMovesF p a9 ((bBehindF p a9 picks.l).1)).getD (pick.toNat % (bMovesF p a9 ((bBehindF p a9 picks.l).1)).length) default).drain) rfl) ?_; simp only [N]
   refine wl_g (wn_t rfl rfl) (v := .bool (!((bMovesF p a9 ((bBehindF p a9 picks.l).1)).getD (pick.toNat % (bMovesF p a9 ((bBehindF p a9 picks.l).1)).length) default).drain)) (fun hg => by simp only [gv_t hg]; exact rp_not rfl ((bMovesF p a9 ((bBehindF p a9 picks.l).1)).getD (pick.toNat % (bMovesF p a9 ((bBehindF p a9 picks.l).1)).length) default).drain rfl) ?_; simp only [N]
   refine wr (rp_pickA rfl (p := v75) (q := (!((bMovesF p a9 ((bBehindF p a9 picks.l).1)).getD (pick.toNat % (bMovesF p a9 ((bBehindF p a9 picks.l).1)).length) default).drain)) rfl rfl rfl) ?_; simp only [N]
   refine wasg (.bool (v75 && (!((bMovesF p a9 ((bBehindF p a9 picks.l).1)).getD (pick.toNat % (bMovesF p a9 ((bBehindF p a9 picks.l).1)).length) default).drain))) ?_; simp only [N]
   refine wpList_nil ?_
   refine wp_seq ?_; refine wp_seq ?_; refine wp_region_lit ?_; refine wr (rp_fieldAddr rfl Tryz.underlying29 rfl 1 rfl sz22 rfl 1 rfl) ?_; simp only [N]
   refine wr (rp_load1 H 3 rfl rfl rfl Tryz.underlying22 rfl (v := p.locs.val) rfl) ?_; simp only [N]
   refine wr (rp_len_sl (s := p.locs) Tryz.underlying22 rfl) ?_; simp only [N]
   refine wr (rp_int_to_u8 rfl Tryz.underlying3 Tryz.underlying5 ((p.locs.l.length : Nat) : Int) rfl) ?_; simp only [N]
   refine wmv (bv (0 : UInt8)) ?_; simp only [N]
   refine wpList_nil ?_
   refine wp_block ?_
   refine wp_loopX (fun m' a' w' => ∃ (b85 : UInt8) (nb : Nat), a' = ⟨#[(ua 0), .bool pso, picks.val, bv pick, .pointer (some ⟨b1, 0, none⟩), undef, undef, undef, (tq a' 8), bv a9, .pointer (some ⟨b2, 0, none⟩), (tq a' 11), (tq a' 12), .pointer (some ⟨b3, 0, none⟩), iv ((((bMovesF p a9 ((bBehindF p a9 picks.l).1)).getD (pick.toNat % (bMovesF p a9 ((bBehindF p a9 picks.l).1)).length) default).thread).toNat : Int), .pointer (some ⟨b4, 0, none⟩), iv v67.2, .bool (v75 && (!((bMovesF p a9 ((bBehindF p a9 picks.l).1)).getD (pick.toNat % (bMovesF p a9 ((bBehindF p a9 picks.l).1)).length) default).drain)), (tq a' 18), (tq a' 19), (tq a' 20), (tq a' 21), (tq a' 22), (ua 23), (tq a' 24), (tq a' 25), bv a9, picks.val, (tq a' 28), (tq a' 29), (tq a' 30), (tq a' 31), bv a9, (tq a' 33), (tq a' 34), (tq a' 35), (tq a' 36), (tq a' 37), (tq a' 38), (tq a' 39), (tq a' 40), (tq a' 41), undef, undef, undef, undef, undef, undef, undef, undef, undef, (tq a' 51), bv pick, (tq a' 53), (tq a' 54), (tq a' 55), (tq a' 56), (tq a' 57), (tq a' 58), (tq a' 59), (tq a' 60), (tq a' 61), (tq a' 62), (tq a' 63), bv a9, (tq a' 65), (tq a' 66), (tq a' 67), (tq a' 68), iv v67.2, iv v67.2, (tq a' 71), (tq a' 72), (tq a' 73), (tq a' 74), .bool v75, .bool v75, (tq a' 77), (tq a' 78), (tq a' 79), (tq a' 80), (tq a' 81), (tq a' 82), (tq a' 83), bv (UInt8.ofNat (((p.locs.l.length : Nat) : Int) % 256).toNat), bv b85, (tq a' 86), (tq a' 87), (tq a' 88), (tq a' 89), (tq a' 90), (tq a' 91), (tq a' 92), (tq a' 93), (tq a' 94), (tq a' 95), (tq a' 96), (tq a' 97), (tq a' 98), (tq a' 99), (tq a' 100), (tq a' 101), (tq a' 102), (tq a' 103), (tq a' 104), (tq a' 105), (tq a' 106), (tq a' 107), (tq a' 108), (tq a' 109), (tq a' 110), (tq a' 111), (tq a' 112), (tq a' 113), (tq a' 114), (tq a' 115), (tq a' 116), (tq a' 117), (tq a' 118), (tq a' 119), (tq a' 120), (tq a' 121), (tq a' 122), (tq a' 123), (tq a' 124), (tq a' 125), (tq a' 126), (tq a' 127), (tq a' 128), (tq a' 129), (tq a' 130), (tq a' 131), (tq a' 132), (tq a' 133), (tq a' 134), (tq a' 135), (tq a' 136), (tq a' 137), (tq a' 138), (tq a' 139), (tq a' 140), (tq a' 141), (tq a' 142), (tq a' 143), (tq a' 144), (tq a' 145), (tq a' 146), (tq a' 147), (tq a' 148), (tq a' 149), (tq a' 150), (tq a' 151), (tq a' 152), (tq a' 153), (tq a' 154), (tq a' 155), (tq a' 156), (tq a' 157), (tq a' 158), (tq a' 159), (tq a' 160), (tq a' 161), (tq a' 162), (tq a' 163), (tq a' 164), (tq a' 165), (tq a' 166), (tq a' 167), (tq a' 168), (tq a' 169), (tq a' 170), (tq a' 171), (tq a' 172), (tq a' 173), undef], []⟩ ∧ Own w [] [FreshAt w (SlIn 3 Pass.cells (⟨x1_.1, x1_.2, (bMovesF p a9 ((bBehindF p a9 picks.l).1))⟩ : Sl Pass)), IsProg p, SlIn 1 eByte picks, Glob] [.blk b4 (.cells (enc v67.1).toArray 41 (0, 0)), .blk b3 (.cells (((bMovesF p a9 ((bBehindF p a9 picks.l).1)).getD (pick.toNat % (bMovesF p a9 ((bBehindF p a9 picks.l).1)).length) default).cells).toArray 50 (0, 0)), .blk b2 (.cells (enc (bBehindF p a9 picks.l).1).toArray 41 (0, 0)), .blk b1 (.cells (p.cells).toArray 29 (0, 0))] w' ∧ (UInt8.ofNat (((p.locs.l.length : Nat) : Int) % 256).toNat).toNat - b85.toNat < nb ∧ (ownF p pso picks.l pick) = loopF (ownF_b p picks.l pick a9 v67 v75) nb b85 ∧ m' = (UInt8.ofNat (((p.locs.l.length : Nat) : Int) % 256).toNat).toNat - b85.toNat) _ ⟨(0 : UInt8), 256, (by kernel_rfl), H, (by have := UInt8.toNat_lt (UInt8.ofNat (((p.locs.l.length : Nat) : Int) % 256).toNat); omega), hFv75, rfl⟩ ?_
   clear H
   rintro _ a_ w15 ⟨b85, nb, ha_, H, hmb, hFb, rfl⟩
   obtain ⟨ub, hu_⟩ : ∃ ub : Nat → Value, a_ = ⟨#[(ua 0), .bool pso, picks.val, bv pick, .pointer (some ⟨b1, 0, none⟩), undef, undef, undef, (ub 8), bv a9, .pointer (some ⟨b2, 0, none⟩), (ub 11), (ub 12), .pointer (some ⟨b3, 0, none⟩), iv ((((bMovesF p a9 ((bBehindF p a9 picks.l).1)).getD (pick.toNat % (bMovesF p a9 ((bBehindF p a9 picks.l).1)).length) default).thread).toNat : Int), .pointer (some ⟨b4, 0, none⟩), iv v67.2, .bool (v75 && (!((bMovesF p a9 ((bBehindF p a9 picks.l).1)).getD (pick.toNat % (bMovesF p a9 ((bBehindF p a9 picks.l).1)).length) default).drain)), (ub 18), (ub 19), (ub 20), (ub 21), (ub 22), (ua 23), (ub 24), (ub 25), bv a9, picks.val, (ub 28), (ub 29), (ub 30), (ub 31), bv a9, (ub 33), (ub 34), (ub 35), (ub 36), (ub 37), (ub 38), (ub 39), (ub 40), (ub 41), undef, undef, undef, undef, undef, undef, undef, undef, undef, (ub 51), bv pick, (ub 53), (ub 54), (ub 55), (ub 56), (ub 57), (ub 58), (ub 59), (ub 60), (ub 61), (ub 62), (ub 63), bv a9, (ub 65), (ub 66), (ub 67), (ub 68), iv v67.2, iv v67.2, (ub 71), (ub 72), (ub 73), (ub 74), .bool v75, .bool v75, (ub 77), (ub 78), (ub 79), (ub 80), (ub 81), (ub 82), (ub 83), bv (UInt8.ofNat (((p.locs.l.length : Nat) : Int) % 256).toNat), bv b85, (ub 86), (ub 87), (ub 88), (ub 89), (ub 90), (ub 91), (ub 92), (ub 93), (ub 94), (ub 95), (ub 96), (ub 97), (ub 98), (ub 99), (ub 100), (ub 101), (ub 102), (ub 103), (ub 104), (ub 105), (ub 106), (ub 107), (ub 108), (ub 109), (ub 110), (ub 111), (ub 112), (ub 113), (ub 114), (ub 115), (ub 116), (ub 117), (ub 118), (ub 119), (ub 120), (ub 121), (ub 122), (ub 123), (ub 124), (ub 125), (ub 126), (ub 127), (ub 128), (ub 129), (ub 130), (ub 131), (ub 132), (ub 133), (ub 134), (ub 135), (ub 136), (ub 137), (ub 138), (ub 139), (ub 140), (ub 141), (ub 142), (ub 143), (ub 144), (ub 145), (ub 146), (ub 147), (ub 148), (ub 149), (ub 150), (ub 151), (ub 152), (ub 153), (ub 154), (ub 155), (ub 156), (ub 157), (ub 158), (ub 159), (ub 160), (ub 161), (ub 162), (ub 163), (ub 164), (ub 165), (ub 166), (ub 167), (ub 168), (ub 169), (ub 170), (ub 171), (ub 172), (ub 173), undef], []⟩ := ⟨fun n => tq a_ n, ha_⟩
   clear ha_; subst hu_
   obtain ⟨nb, rfl⟩ : ∃ q, nb = q + 1 := ⟨nb - 1, by omega⟩
   obtain ⟨rb, hrb⟩ : ∃ r, r = loopF (ownF_b p picks.l pick a9 v67 v75) nb := ⟨_, rfl⟩
   have hFb : (ownF p pso picks.l pick) = ownF_b p picks.l pick a9 v67 v75 rb b85 := hFb.trans (by rw [hrb]; rfl)
   refine wp_seq ?_; refine wp_region_lit ?_; refine wr (rp_u8_lss rfl b85 (UInt8.ofNat (((p.locs.l.length : Nat) : Int) % 256).toNat) rfl rfl) ?_; simp only [N]
   refine wpList_nil ?_
   refine wp_seq ?_; refine wp_cond_split rfl (fun hc4 => ?_) (fun hc4 => ?_)
   · --T 4
    have hc4N4 : b85.toNat < (UInt8.ofNat (((p.locs.l.length : Nat) : Int) % 256).toNat).toNat := u8_lt hc4
    have hb6 : b85.toNat < p.locs.l.length := by
      have h1 := UInt8.lt_iff_toNat_lt.1 (of_decide_eq_true hc4)
      rw [UInt8.toNat_ofNat'] at h1
      omega
    refine wp_skip ?_
    refine wp_seq ?_; refine wp_block ?_
    refine wp_seq ?_; refine wp_region_lit ?_; refine wmv (bv b85) ?_; simp only [N]
    refine wasg (bv b85) ?_; simp only [N]
    refine wpList_nil ?_
    refine wp_seq ?_; refine wp_region_own H (by kernel_rfl) (by kernel_rfl) ?_
    refine wq_run rfl (fun w H => rp_loadWe H 2 rfl rfl rfl Tryz.underlying41 rfl (by first | exact sz41 | (rw [sz41]; congr 1; first | omega | (simp only [enc_length, List.size_toArray, List.length_set, List.length_append, List.length_take, List.length_drop, List.length_replicate]; omega) | (simp [-List.reduceReplicate]; done) | (simp [-List.reduceReplicate]; omega) | (simp [*, -List.reduceReplicate]; done) | (simp [*, -List.reduceReplicate]; omega))) rfl) ?_; simp only [N]
    refine wq_run rfl (fun w H => rp_move rfl (v := iv ((((bMovesF p a9 ((bBehindF p a9 picks.l).1)).getD (pick.toNat % (bMovesF p a9 ((bBehindF p a9 picks.l).1)).length) default).thread).toNat : Int)) rfl) ?_; simp only [N]
    refine wq_run rfl (fun w H => rp_move rfl (v := bv b85) rfl) ?_; simp only [N]
    refine wq_call rfl (rc_go Tryz.func15 (by kernel_rfl) rfl) (fun w H => seenF_spec ((bBehindF p a9 picks.l).1) ((((bMovesF p a9 ((bBehindF p a9 picks.l).1)).getD (pick.toNat % (bMovesF p a9 ((bBehindF p a9 picks.l).1)).length) default).thread).toNat : Int) b85 (by first | omega | (simp only [enc_length, List.size_toArray, List.length_set, List.length_append, List.length_take, List.length_drop, List.length_replicate]; omega) | (simp [-List.reduceReplicate]; done) | (simp [-List.reduceReplicate]; omega) | (simp [*, -List.reduceReplicate]; done) | (simp [*, -List.reduceReplicate]; omega)) _ ) ?_; simp only [N]
    generalize hv91 : (seenF ((bBehindF p a9 picks.l).1) ((((bMovesF p a9 ((bBehindF p a9 picks.l).1)).getD (pick.toNat % (bMovesF p a9 ((bBehindF p a9 picks.l).1)).length) default).thread).toNat : Int) b85) = v91
    have hFv91 : (ownF p pso picks.l pick) = ownF_v91 p picks.l pick a9 v67 v75 b85 rb v91 := by first | (rw [← hv91]; exact hFb.trans (bt hc4)) | exact hFb.trans (bt hc4)
    refine wq_run rfl (fun w H => rp_loadWe H 0 rfl rfl rfl Tryz.underlying41 rfl (by first | exact sz41 | (rw [sz41]; congr 1; first | omega | (simp only [enc_length, List.size_toArray, List.length_set, List.length_append, List.length_take, List.length_drop, List.length_replicate]; omega) | (simp [-List.reduceReplicate]; done) | (simp [-List.reduceReplicate]; omega) | (simp [*, -List.reduceReplicate]; done) | (simp [*, -List.reduceReplicate]; omega))) rfl) ?_; simp only [N]
    refine wq_run rfl (fun w H => rp_move rfl (v := iv ((((bMovesF p a9 ((bBehindF p a9 picks.l).1)).getD (pick.toNat % (bMovesF p a9 ((bBehindF p a9 picks.l).1)).length) default).thread).toNat : Int)) rfl) ?_; simp only [N]
    refine wq_run rfl (fun w H => rp_move rfl (v := bv b85) rfl) ?_; simp only [N]
    refine wq_call rfl (rc_go Tryz.func15 (by kernel_rfl) rfl) (fun w H => seenF_spec v67.1 ((((bMovesF p a9 ((bBehindF p a9 picks.l).1)).getD (pick.toNat % (bMovesF p a9 ((bBehindF p a9 picks.l).1)).length) default).thread).toNat : Int) b85 (by first | omega | (simp only [enc_length, List.size_toArray, List.length_set, List.length_append, List.length_take, List.length_drop, List.length_replicate]; omega) | (simp [-List.reduceReplicate]; done) | (simp [-List.reduceReplicate]; omega) | (simp [*, -List.reduceReplicate]; done) | (simp [*, -List.reduceReplicate]; omega)) _ ) ?_; simp only [N]
    generalize hv95 : (seenF v67.1 ((((bMovesF p a9 ((bBehindF p a9 picks.l).1)).getD (pick.toNat % (bMovesF p a9 ((bBehindF p a9 picks.l).1)).length) default).thread).toNat : Int) b85) = v95
    have hFv95 : (ownF p pso picks.l pick) = ownF_v95 p picks.l pick a9 v67 v75 b85 v91 rb v95 := by first | (rw [← hv95]; exact hFv91) | exact hFv91
    refine wq_run rfl (fun w H => rp_assign rfl (v := bv v91) rfl) ?_; simp only [N]
    refine wq_run rfl (fun w H => rp_assign rfl (v := bv v95) rfl) ?_; simp only [N]
    refine wq_nil ?_
    clear H; intro w16 H
    refine wp_seq ?_; refine wp_cutX (fun a' w' => ∃ (c19 : UInt8), a' = ⟨#[(ua 0), .bool pso, picks.val, bv pick, .pointer (some ⟨b1, 0, none⟩), undef, undef, undef, (ub 8), bv a9, .pointer (some ⟨b2, 0, none⟩), (ub 11), (ub 12), .pointer (some ⟨b3, 0, none⟩), iv ((((bMovesF p a9 ((bBehindF p a9 picks.l).1)).getD (pick.toNat % (bMovesF p a9 ((bBehindF p a9 picks.l).1)).length) default).thread).toNat : Int), .pointer (some ⟨b4, 0, none⟩), iv v67.2, .bool (v75 && (!((bMovesF p a9 ((bBehindF p a9 picks.l).1)).getD (pick.toNat % (bMovesF p a9 ((bBehindF p a9 picks.l).1)).length) default).drain)), bv b85, bv c19, bv v95, (tq a' 21), (ub 22), (ua 23), (ub 24), (ub 25), bv a9, picks.val, (ub 28), (ub 29), (ub 30), (ub 31), bv a9, (ub 33), (ub 34), (ub 35), (ub 36), (ub 37), (ub 38), (ub 39), (ub 40), (ub 41), undef, undef, undef, undef, undef, undef, undef, undef, undef, (ub 51), bv pick, (ub 53), (ub 54), (ub 55), (ub 56), (ub 57), (ub 58), (ub 59), (ub 60), (ub 61), (ub 62), (ub 63), bv a9, (ub 65), (ub 66), (ub 67), (ub 68), iv v67.2, iv v67.2, (ub 71), (ub 72), (ub 73), (ub 74), .bool v75, .bool v75, (ub 77), (ub 78), (ub 79), (ub 80), (ub 81), (ub 82), (ub 83), bv (UInt8.ofNat (((p.locs.l.length : Nat) : Int) % 256).toNat), bv b85, (tq a' 86), bv b85, (tq a' 88), (tq a' 89), bv b85, bv v91, (tq a' 92), (tq a' 93), bv b85, bv v95, (tq a' 96), (tq a' 97), (tq a' 98), (tq a' 99), (tq a' 100), (tq a' 101), (tq a' 102), (tq a' 103), (tq a' 104), (tq a' 105), (tq a' 106), (tq a' 107), (tq a' 108), (tq a' 109), (tq a' 110), (tq a' 111), (tq a' 112), (tq a' 113), (tq a' 114), (tq a' 115), (tq a' 116), (tq a' 117), (tq a' 118), (tq a' 119), (tq a' 120), (ub 121), (ub 122), (ub 123), (ub 124), (ub 125), (ub 126), (ub 127), (ub 128), (ub 129), (ub 130), (ub 131), (ub 132), (ub 133), (ub 134), (ub 135), (ub 136), (ub 137), (ub 138), (ub 139), (ub 140), (ub 141), (ub 142), (ub 143), (ub 144), (ub 145), (ub 146), (ub 147), (ub 148), (ub 149), (ub 150), (ub 151), (ub 152), (ub 153), (ub 154), (ub 155), (ub 156), (ub 157), (ub 158), (ub 159), (ub 160), (ub 161), (ub 162), (ub 163), (ub 164), (ub 165), (ub 166), (ub 167), (ub 168), (ub 169), (ub 170), (ub 171), (ub 172), (ub 173), undef], []⟩ ∧ Own w [] [FreshAt w (SlIn 3 Pass.cells (⟨x1_.1, x1_.2, (bMovesF p a9 ((bBehindF p a9 picks.l).1))⟩ : Sl Pass)), IsProg p, SlIn 1 eByte picks, Glob] [.blk b4 (.cells (enc v67.1).toArray 41 (0, 0)), .blk b3 (.cells (((bMovesF p a9 ((bBehindF p a9 picks.l).1)).getD (pick.toNat % (bMovesF p a9 ((bBehindF p a9 picks.l).1)).length) default).cells).toArray 50 (0, 0)), .blk b2 (.cells (enc (bBehindF p a9 picks.l).1).toArray 41 (0, 0)), .blk b1 (.cells (p.cells).toArray 29 (0, 0))] w' ∧ (ownF p pso picks.l pick) = ownF_c p picks.l pick a9 v67 v75 b85 v95 rb c19) ?_ ?_
    ·
     refine wp_seq ?_; refine wp_region_lit ?_; refine wmv (.bool (v75 && (!((bMovesF p a9 ((bBehindF p a9 picks.l).1)).getD (pick.toNat % (bMovesF p a9 ((bBehindF p a9 picks.l).1)).length) default).drain))) ?_; simp only [N]
     refine wpList_nil ?_
     refine wp_cond_split rfl (fun hc5 => ?_) (fun hc5 => ?_)
     · --T 5
      have hst := storeF_pc (hv75.trans (by simpa using andl hc5))
      rw [Int.toNat_natCast] at hst
      have hst2 := hst.2
      refine wp_seq ?_; refine wp_region_mix 14 H (by kernel_rfl) ?_
      refine wxl_tk 0 rfl (xy_run rfl (fun w H => rp_fieldAddr rfl Tryz.underlying29 rfl 3 rfl sz24 rfl 3 rfl)) ?_; simp only [N]
      refine wxl_tk 1 rfl (xy_run rfl (fun w H => rp_load1 H 3 rfl rfl rfl Tryz.underlying24 rfl (v := p.threads.val) rfl)) ?_; simp only [N]
      refine wxl_tk 2 rfl (xy_run rfl (fun w H => rp_move rfl (v := iv ((((bMovesF p a9 ((bBehindF p a9 picks.l).1)).getD (pick.toNat % (bMovesF p a9 ((bBehindF p a9 picks.l).1)).length) default).thread).toNat : Int)) rfl)) ?_; simp only [N]
      refine wxl_tk 3 rfl (xy_run rfl (fun w H => rp_indexAddr_sl (IsProg.threads (H.ro_at 1 rfl)) rfl Tryz.underlying24 sz59 rfl (((bMovesF p a9 ((bBehindF p a9 picks.l).1)).getD (pick.toNat % (bMovesF p a9 ((bBehindF p a9 picks.l).1)).length) default).thread).toNat rfl (by omega))) ?_; simp only [N]
      refine wxl_tk 4 rfl (xy_run rfl (fun w H => rp_load1_sl (IsProg.threads (H.ro_at 1 rfl)) ((((bMovesF p a9 ((bBehindF p a9 picks.l).1)).getD (pick.toNat % (bMovesF p a9 ((bBehindF p a9 picks.l).1)).length) default).thread).toNat) (by omega) rfl Tryz.underlying59 rfl 0 rfl (by omega) (v := (p.threads.l.getD ((((bMovesF p a9 ((bBehindF p a9 picks.l).1)).getD (pick.toNat % (bMovesF p a9 ((bBehindF p a9 picks.l).1)).length) default).thread).toNat) default).val) rfl)) ?_; simp only [N]
      refine wxl_tk 5 rfl (xy_run rfl (fun w H => rp_move rfl (v := iv ((((bMovesF p a9 ((bBehindF p a9 picks.l).1)).getD (pick.toNat % (bMovesF p a9 ((bBehindF p a9 picks.l).1)).length) default).thread).toNat : Int)) rfl)) ?_; simp only [N]
      refine wxl_tk 6 rfl (xy_run rfl (fun w H => rp_fieldAddr rfl Tryz.underlying41 rfl 0 rfl sz33 rfl 0 rfl)) ?_; simp only [N]
      refine wxl_tk 7 rfl (xy_run rfl (fun w H => rp_indexAddr_arr rfl Tryz.underlying33 sz32 rfl (((bMovesF p a9 ((bBehindF p a9 picks.l).1)).getD (pick.toNat % (bMovesF p a9 ((bBehindF p a9 picks.l).1)).length) default).thread).toNat rfl (by omega) ((((bMovesF p a9 ((bBehindF p a9 picks.l).1)).getD (pick.toNat % (bMovesF p a9 ((bBehindF p a9 picks.l).1)).length) default).thread).toNat * 9) (by omega))) ?_; simp only [N]
      refine wxl_tk 8 rfl (xy_run rfl (fun w H => rp_fieldAddr rfl Tryz.underlying32 rfl 0 rfl sz5 rfl ((((bMovesF p a9 ((bBehindF p a9 picks.l).1)).getD (pick.toNat % (bMovesF p a9 ((bBehindF p a9 picks.l).1)).length) default).thread).toNat * 9) (by omega))) ?_; simp only [N]
      refine wxl_tk 9 rfl (xy_run rfl (fun w H => rp_load1e H 2 rfl rfl rfl Tryz.underlying5 rfl ((((bMovesF p a9 ((bBehindF p a9 picks.l).1)).getD (pick.toNat % (bMovesF p a9 ((bBehindF p a9 picks.l).1)).length) default).thread).toNat * 9) rfl (by first | omega | (simp only [enc_length, List.size_toArray, List.length_set, List.length_append, List.length_take, List.length_drop, List.length_replicate]; omega) | (simp [-List.reduceReplicate]; done) | (simp [-List.reduceReplicate]; omega) | (simp [*, -List.reduceReplicate]; done) | (simp [*, -List.reduceReplicate]; omega)))) ?_; simp only [N]
      refine wxl_tk 10 rfl (xy_run rfl (fun w H => rp_indexAddr_sl (IsProg.ins_at (H.ro_at 1 rfl) (t := (((bMovesF p a9 ((bBehindF p a9 picks.l).1)).getD (pick.toNat % (bMovesF p a9 ((bBehindF p a9 picks.l).1)).length) default).thread).toNat) (by omega)) rfl Tryz.underlying59 sz58 rfl ((bBehindF p a9 picks.l).1.getD ((((bMovesF p a9 ((bBehindF p a9 picks.l).1)).getD (pick.toNat % (bMovesF p a9 ((bBehindF p a9 picks.l).1)).length) default).thread).toNat * 9) 0).toNat rfl (by omega))) ?_; simp only [N]
      refine wxl_tk 11 rfl (xy_run rfl (fun w H => rp_loadN_sl (IsProg.ins_at (H.ro_at 1 rfl) (t := (((bMovesF p a9 ((bBehindF p a9 picks.l).1)).getD (pick.toNat % (bMovesF p a9 ((bBehindF p a9 picks.l).1)).length) default).thread).toNat) (by omega)) (((bBehindF p a9 picks.l).1.getD ((((bMovesF p a9 ((bBehindF p a9 picks.l).1)).getD (pick.toNat % (bMovesF p a9 ((bBehindF p a9 picks.l).1)).length) default).thread).toNat * 9) 0).toNat) (by omega) rfl Tryz.underlying58 rfl rfl sz58)) ?_; simp only [N]
      refine wxl_alloc 12 rfl rfl (by kernel_rfl) rfl (xa_alloc rfl zv58) ?_
      intro bd21
      simp only [N, M, Value.cells]
      refine wxl_store 13 0 rfl rfl (by kernel_rfl) rfl rfl (xs_whole rfl rfl (vs := (((p.threads.l.getD ((((bMovesF p a9 ((bBehindF p a9 picks.l).1)).getD (pick.toNat % (bMovesF p a9 ((bBehindF p a9 picks.l).1)).length) default).thread).toNat) default).l.getD (((bBehindF p a9 picks.l).1.getD ((((bMovesF p a9 ((bBehindF p a9 picks.l).1)).getD (pick.toNat % (bMovesF p a9 ((bBehindF p a9 picks.l).1)).length) default).thread).toNat * 9) 0).toNat) default).cells).toArray) rfl (Ins.cells_one _) (by first | exact sz58 | (rw [sz58]; congr 1; first | omega | (simp only [enc_length, List.size_toArray, List.length_set, List.length_append, List.length_take, List.length_drop, List.length_replicate]; omega) | (simp [-List.reduceReplicate]; done) | (simp [-List.reduceReplicate]; omega) | (simp [*, -List.reduceReplicate]; done) | (simp [*, -List.reduceReplicate]; omega))) (by first | rfl | first | omega | (simp only [enc_length, List.size_toArray, List.length_set, List.length_append, List.length_take, List.length_drop, List.length_replicate]; omega) | (simp [-List.reduceReplicate]; done) | (simp [-List.reduceReplicate]; omega) | (simp [*, -List.reduceReplicate]; done) | (simp [*, -List.reduceReplicate]; omega))) ?_
      simp only [N, M, Value.cells]
      refine wpX_done (by kernel_rfl) ?_ _
      clear H; intro w17 H; simp only [List.cons_append, List.nil_append] at H
      refine wp_seq ?_; refine wp_region_lit ?_; refine wr (rp_fieldAddr rfl Tryz.underlying58 rfl 2 rfl sz5 rfl 2 rfl) ?_; simp only [N]
      refine wr (rp_load1 H 0 rfl rfl rfl Tryz.underlying5 rfl (v := bv ((p.threads.l.getD ((((bMovesF p a9 ((bBehindF p a9 picks.l).1)).getD (pick.toNat % (bMovesF p a9 ((bBehindF p a9 picks.l).1)).length) default).thread).toNat) default).l.getD (((bBehindF p a9 picks.l).1.getD ((((bMovesF p a9 ((bBehindF p a9 picks.l).1)).getD (pick.toNat % (bMovesF p a9 ((bBehindF p a9 picks.l).1)).length) default).thread).toNat * 9) 0).toNat) default).loc) rfl) ?_; simp only [N]
      refine wmv (bv b85) ?_; simp only [N]
      refine wr (rp_u8_eql rfl ((p.threads.l.getD ((((bMovesF p a9 ((bBehindF p a9 picks.l).1)).getD (pick.toNat % (bMovesF p a9 ((bBehindF p a9 picks.l).1)).length) default).thread).toNat) default).l.getD (((bBehindF p a9 picks.l).1.getD ((((bMovesF p a9 ((bBehindF p a9 picks.l).1)).getD (pick.toNat % (bMovesF p a9 ((bBehindF p a9 picks.l).1)).length) default).thread).toNat * 9) 0).toNat) default).loc b85 rfl rfl) ?_; simp only [N]
      refine wpList_nil ?_
      refine wp_cond_split rfl (fun hc6 => ?_) (fun hc6 => ?_)
      · --T 6
       have hc6N5 : (((p.threads.l.getD ((((bMovesF p a9 ((bBehindF p a9 picks.l).1)).getD (pick.toNat % (bMovesF p a9 ((bBehindF p a9 picks.l).1)).length) default).thread).toNat) default).l.getD (((bBehindF p a9 picks.l).1.getD ((((bMovesF p a9 ((bBehindF p a9 picks.l).1)).getD (pick.toNat % (bMovesF p a9 ((bBehindF p a9 picks.l).1)).length) default).thread).toNat * 9) 0).toNat) default).loc).toNat = b85.toNat := u8_eq hc6
       refine wp_region_own H (by kernel_rfl) (by kernel_rfl) ?_
       refine wq_run rfl (fun w H => rp_fieldAddr rfl Tryz.underlying58 rfl 3 rfl sz56 rfl 3 rfl) ?_; simp only [N]
       refine wq_run rfl (fun w H => rp_loadN H 0 rfl rfl rfl Tryz.underlying56 rfl sz56 (Nat.le_of_ble_eq_true rfl) (cs' := ((p.threads.l.getD ((((bMovesF p a9 ((bBehindF p a9 picks.l).1)).getD (pick.toNat % (bMovesF p a9 ((bBehindF p a9 picks.l).1)).length) default).thread).toNat) default).l.getD (((bBehindF p a9 picks.l).1.getD ((((bMovesF p a9 ((bBehindF p a9 picks.l).1)).getD (pick.toNat % (bMovesF p a9 ((bBehindF p a9 picks.l).1)).length) default).thread).toNat * 9) 0).toNat) default).a.cells) rfl) ?_; simp only [N]
       refine wq_run rfl (fun w H => rp_move rfl (v := iv ((((bMovesF p a9 ((bBehindF p a9 picks.l).1)).getD (pick.toNat % (bMovesF p a9 ((bBehindF p a9 picks.l).1)).length) default).thread).toNat : Int)) rfl) ?_; simp only [N]
       refine wq_run rfl (fun w H => rp_fieldAddr rfl Tryz.underlying41 rfl 0 rfl sz33 rfl 0 rfl) ?_; simp only [N]
       refine wq_run rfl (fun w H => rp_indexAddr_arr rfl Tryz.underlying33 sz32 rfl (((bMovesF p a9 ((bBehindF p a9 picks.l).1)).getD (pick.toNat % (bMovesF p a9 ((bBehindF p a9 picks.l).1)).length) default).thread).toNat rfl (by omega) ((((bMovesF p a9 ((bBehindF p a9 picks.l).1)).getD (pick.toNat % (bMovesF p a9 ((bBehindF p a9 picks.l).1)).length) default).thread).toNat * 9) (by omega)) ?_; simp only [N]
       refine wq_run rfl (fun w H => rp_fieldAddr rfl Tryz.underlying32 rfl 1 rfl sz30 rfl ((((bMovesF p a9 ((bBehindF p a9 picks.l).1)).getD (pick.toNat % (bMovesF p a9 ((bBehindF p a9 picks.l).1)).length) default).thread).toNat * 9 + 1) (by omega)) ?_; simp only [N]
       refine wq_run rfl (fun w H => rp_loadNe H 3 rfl rfl rfl Tryz.underlying30 rfl sz30 ((((bMovesF p a9 ((bBehindF p a9 picks.l).1)).getD (pick.toNat % (bMovesF p a9 ((bBehindF p a9 picks.l).1)).length) default).thread).toNat * 9 + 1) (by omega) (by first | omega | (simp only [enc_length, List.size_toArray, List.length_set, List.length_append, List.length_take, List.length_drop, List.length_replicate]; omega) | (simp [-List.reduceReplicate]; done) | (simp [-List.reduceReplicate]; omega) | (simp [*, -List.reduceReplicate]; done) | (simp [*, -List.reduceReplicate]; omega))) ?_; simp only [N]
       refine wq_call rfl (rc_go Tryz.func16 (by kernel_rfl) rfl) (fun w H => worth_spec ((p.threads.l.getD ((((bMovesF p a9 ((bBehindF p a9 picks.l).1)).getD (pick.toNat % (bMovesF p a9 ((bBehindF p a9 picks.l).1)).length) default).thread).toNat) default).l.getD (((bBehindF p a9 picks.l).1.getD ((((bMovesF p a9 ((bBehindF p a9 picks.l).1)).getD (pick.toNat % (bMovesF p a9 ((bBehindF p a9 picks.l).1)).length) default).thread).toNat * 9) 0).toNat) default).a (((bBehindF p a9 picks.l).1.drop ((((bMovesF p a9 ((bBehindF p a9 picks.l).1)).getD (pick.toNat % (bMovesF p a9 ((bBehindF p a9 picks.l).1)).length) default).thread).toNat * 9 + 1)).take 8) (by first | omega | (simp only [enc_length, List.size_toArray, List.length_set, List.length_append, List.length_take, List.length_drop, List.length_replicate]; omega) | (simp [-List.reduceReplicate]; done) | (simp [-List.reduceReplicate]; omega) | (simp [*, -List.reduceReplicate]; done) | (simp [*, -List.reduceReplicate]; omega)) _) ?_; simp only [N]
       refine wq_run rfl (fun w H => rp_assign rfl (v := bv (worth ((p.threads.l.getD ((((bMovesF p a9 ((bBehindF p a9 picks.l).1)).getD (pick.toNat % (bMovesF p a9 ((bBehindF p a9 picks.l).1)).length) default).thread).toNat) default).l.getD (((bBehindF p a9 picks.l).1.getD ((((bMovesF p a9 ((bBehindF p a9 picks.l).1)).getD (pick.toNat % (bMovesF p a9 ((bBehindF p a9 picks.l).1)).length) default).thread).toNat * 9) 0).toNat) default).a (((bBehindF p a9 picks.l).1.drop ((((bMovesF p a9 ((bBehindF p a9 picks.l).1)).getD (pick.toNat % (bMovesF p a9 ((bBehindF p a9 picks.l).1)).length) default).thread).toNat * 9 + 1)).take 8))) rfl) ?_; simp only [N]
       refine wq_nil ?_
       clear H; intro w18 H
       replace H := H.dropNew 0 rfl (foot_blk (H.newrow 0 rfl _ rfl)); simp only [m5, m6] at H
       exact ⟨(worth ((p.threads.l.getD ((((bMovesF p a9 ((bBehindF p a9 picks.l).1)).getD (pick.toNat % (bMovesF p a9 ((bBehindF p a9 picks.l).1)).length) default).thread).toNat) default).l.getD (((bBehindF p a9 picks.l).1.getD ((((bMovesF p a9 ((bBehindF p a9 picks.l).1)).getD (pick.toNat % (bMovesF p a9 ((bBehindF p a9 picks.l).1)).length) default).thread).toNat * 9) 0).toNat) default).a (((bBehindF p a9 picks.l).1.drop ((((bMovesF p a9 ((bBehindF p a9 picks.l).1)).getD (pick.toNat % (bMovesF p a9 ((bBehindF p a9 picks.l).1)).length) default).thread).toNat * 9 + 1)).take 8)), (by kernel_rfl), H, hFv95.trans ((bt hc5).trans (bt hc6))⟩
      · --F 6
       have hc6N6 : (((p.threads.l.getD ((((bMovesF p a9 ((bBehindF p a9 picks.l).1)).getD (pick.toNat % (bMovesF p a9 ((bBehindF p a9 picks.l).1)).length) default).thread).toNat) default).l.getD (((bBehindF p a9 picks.l).1.getD ((((bMovesF p a9 ((bBehindF p a9 picks.l).1)).getD (pick.toNat % (bMovesF p a9 ((bBehindF p a9 picks.l).1)).length) default).thread).toNat * 9) 0).toNat) default).loc).toNat ≠ b85.toNat := u8_ne hc6
       refine wp_skip ?_
       replace H := H.dropNew 0 rfl (foot_blk (H.newrow 0 rfl _ rfl)); simp only [m5, m6] at H
       exact ⟨v91, (by kernel_rfl), H, hFv95.trans ((bt hc5).trans (bf hc6))⟩
     · --F 5
      refine wp_skip ?_
      exact ⟨v91, (by kernel_rfl), H, hFv95.trans (bf hc5)⟩
    clear H
    rintro a_ w19 ⟨c19, ha_, H, hFc⟩
    obtain ⟨uc, hu_⟩ : ∃ uc : Nat → Value, a_ = ⟨#[(ua 0), .bool pso, picks.val, bv pick, .pointer (some ⟨b1, 0, none⟩), undef, undef, undef, (ub 8), bv a9, .pointer (some ⟨b2, 0, none⟩), (ub 11), (ub 12), .pointer (some ⟨b3, 0, none⟩), iv ((((bMovesF p a9 ((bBehindF p a9 picks.l).1)).getD (pick.toNat % (bMovesF p a9 ((bBehindF p a9 picks.l).1)).length) default).thread).toNat : Int), .pointer (some ⟨b4, 0, none⟩), iv v67.2, .bool (v75 && (!((bMovesF p a9 ((bBehindF p a9 picks.l).1)).getD (pick.toNat % (bMovesF p a9 ((bBehindF p a9 picks.l).1)).length) default).drain)), bv b85, bv c19, bv v95, (uc 21), (ub 22), (ua 23), (ub 24), (ub 25), bv a9, picks.val, (ub 28), (ub 29), (ub 30), (ub 31), bv a9, (ub 33), (ub 34), (ub 35), (ub 36), (ub 37), (ub 38), (ub 39), (ub 40), (ub 41), undef, undef, undef, undef, undef, undef, undef, undef, undef, (ub 51), bv pick, (ub 53), (ub 54), (ub 55), (ub 56), (ub 57), (ub 58), (ub 59), (ub 60), (ub 61), (ub 62), (ub 63), bv a9, (ub 65), (ub 66), (ub 67), (ub 68), iv v67.2, iv v67.2, (ub 71), (ub 72), (ub 73), (ub 74), .bool v75, .bool v75, (ub 77), (ub 78), (ub 79), (ub 80), (ub 81), (ub 82), (ub 83), bv (UInt8.ofNat (((p.locs.l.length : Nat) : Int) % 256).toNat), bv b85, (uc 86), bv b85, (uc 88), (uc 89), bv b85, bv v91, (uc 92), (uc 93), bv b85, bv v95, (uc 96), (uc 97), (uc 98), (uc 99), (uc 100), (uc 101), (uc 102), (uc 103), (uc 104), (uc 105), (uc 106), (uc 107), (uc 108), (uc 109), (uc 110), (uc 111), (uc 112), (uc 113), (uc 114), (uc 115), (uc 116), (uc 117), (uc 118), (uc 119), (uc 120), (ub 121), (ub 122), (ub 123), (ub 124), (ub 125), (ub 126), (ub 127), (ub 128), (ub 129), (ub 130), (ub 131), (ub 132), (ub 133), (ub 134), (ub 135), (ub 136), (ub 137), (ub 138), (ub 139), (ub 140), (ub 141), (ub 142), (ub 143), (ub 144), (ub 145), (ub 146), (ub 147), (ub 148), (ub 149), (ub 150), (ub 151), (ub 152), (ub 153), (ub 154), (ub 155), (ub 156), (ub 157), (ub 158), (ub 159), (ub 160), (ub 161), (ub 162), (ub 163), (ub 164), (ub 165), (ub 166), (ub 167), (ub 168), (ub 169), (ub 170), (ub 171), (ub 172), (ub 173), undef], []⟩ := ⟨fun n => tq a_ n, ha_⟩
    clear ha_; subst hu_
    refine wp_seq ?_; refine wp_seq ?_; refine wp_region_lit ?_; refine wr (rp_fieldAddr rfl Tryz.underlying50 rfl 1 rfl sz4 rfl 1 rfl) ?_; simp only [N]
    refine wr (rp_load1 H 1 rfl rfl rfl Tryz.underlying4 rfl (v := .bool ((bMovesF p a9 ((bBehindF p a9 picks.l).1)).getD (pick.toNat % (bMovesF p a9 ((bBehindF p a9 picks.l).1)).length) default).drain) rfl) ?_; simp only [N]
    refine wmv (.bool ((bMovesF p a9 ((bBehindF p a9 picks.l).1)).getD (pick.toNat % (bMovesF p a9 ((bBehindF p a9 picks.l).1)).length) default).drain) ?_; simp only [N]
    refine wl_g (wn_f rfl rfl) (v := .bool (v75 && (!((bMovesF p a9 ((bBehindF p a9 picks.l).1)).getD (pick.toNat % (bMovesF p a9 ((bBehindF p a9 picks.l).1)).length) default).drain))) (fun hg => rp_move rfl (v := .bool (v75 && (!((bMovesF p a9 ((bBehindF p a9 picks.l).1)).getD (pick.toNat % (bMovesF p a9 ((bBehindF p a9 picks.l).1)).length) default).drain))) rfl) ?_; simp only [N]
    refine wr (rp_pickO rfl (p := ((bMovesF p a9 ((bBehindF p a9 picks.l).1)).getD (pick.toNat % (bMovesF p a9 ((bBehindF p a9 picks.l).1)).length) default).drain) (q := (v75 && (!((bMovesF p a9 ((bBehindF p a9 picks.l).1)).getD (pick.toNat % (bMovesF p a9 ((bBehindF p a9 picks.l).1)).length) default).drain))) rfl rfl rfl) ?_; simp only [N]
    refine wmv (.bool (((bMovesF p a9 ((bBehindF p a9 picks.l).1)).getD (pick.toNat % (bMovesF p a9 ((bBehindF p a9 picks.l).1)).length) default).drain || (v75 && (!((bMovesF p a9 ((bBehindF p a9 picks.l).1)).getD (pick.toNat % (bMovesF p a9 ((bBehindF p a9 picks.l).1)).length) default).drain)))) ?_; simp only [N]
    refine wl_g (wn_t rfl rfl) (v := bv v95) (fun hg => rp_move rfl (v := bv v95) rfl) ?_; simp only [N]
    refine wl_g (wn_t rfl rfl) (v := bv c19) (fun hg => rp_move rfl (v := bv c19) rfl) ?_; simp only [N]
    refine wl_g (wn_t rfl rfl) (v := .bool (v95 != c19)) (fun hg => by simp only [gv_t hg]; exact rp_u8_neq rfl v95 c19 rfl rfl) ?_; simp only [N]
    refine wr (rp_pickA rfl (p := (((bMovesF p a9 ((bBehindF p a9 picks.l).1)).getD (pick.toNat % (bMovesF p a9 ((bBehindF p a9 picks.l).1)).length) default).drain || (v75 && (!((bMovesF p a9 ((bBehindF p a9 picks.l).1)).getD (pick.toNat % (bMovesF p a9 ((bBehindF p a9 picks.l).1)).length) default).drain)))) (q := (v95 != c19)) rfl rfl rfl) ?_; simp only [N]
    refine wpList_nil ?_
    refine wp_cond_split rfl (fun hc7 => ?_) (fun hc7 => ?_)
    · --T 7
     have hc7N7 : v95.toNat ≠ c19.toNat := u8_ne2 (andr hc7)
     refine wp_seq ?_; refine wp_region_lit ?_; refine wasg (.bool false) ?_; simp only [N]
     refine wpList_nil ?_
     refine wp_ret ?_
     try simp only [Exit.inBlock, Exit.then, cutP]
     refine bodyPost_ret (results1 rfl (rv_tmp rfl)) rfl ?_
     have hF : (ownF p pso picks.l pick) = false := hFc.trans (bt hc7)
     rw [hF]
     exact ⟨rfl, H.ext⟩
    · --F 7
     refine wp_skip ?_
     refine wp_seq ?_; refine wp_region_lit ?_; refine wr (rp_fieldAddr rfl Tryz.underlying29 rfl 3 rfl sz24 rfl 3 rfl) ?_; simp only [N]
     refine wr (rp_load1 H 3 rfl rfl rfl Tryz.underlying24 rfl (v := p.threads.val) rfl) ?_; simp only [N]
     refine wr (rp_len_sl (s := p.threads) Tryz.underlying24 rfl) ?_; simp only [N]
     refine wmv (iv (0 : Int)) ?_; simp only [N]
     refine wpList_nil ?_
     refine wp_block ?_
     refine wp_loopX (fun m' a' w' => ∃ (d134 : Nat), a' = ⟨#[(ua 0), .bool pso, picks.val, bv pick, .pointer (some ⟨b1, 0, none⟩), undef, undef, undef, (tq a' 8), bv a9, .pointer (some ⟨b2, 0, none⟩), (ub 11), (ub 12), .pointer (some ⟨b3, 0, none⟩), iv ((((bMovesF p a9 ((bBehindF p a9 picks.l).1)).getD (pick.toNat % (bMovesF p a9 ((bBehindF p a9 picks.l).1)).length) default).thread).toNat : Int), .pointer (some ⟨b4, 0, none⟩), iv v67.2, .bool (v75 && (!((bMovesF p a9 ((bBehindF p a9 picks.l).1)).getD (pick.toNat % (bMovesF p a9 ((bBehindF p a9 picks.l).1)).length) default).drain)), bv b85, bv c19, bv v95, (uc 21), (tq a' 22), (ua 23), (ub 24), (ub 25), bv a9, picks.val, (ub 28), (ub 29), (ub 30), (ub 31), bv a9, (ub 33), (ub 34), (ub 35), (ub 36), (ub 37), (ub 38), (ub 39), (ub 40), (ub 41), undef, undef, undef, undef, undef, undef, undef, undef, undef, (ub 51), bv pick, (ub 53), (ub 54), (ub 55), (ub 56), (ub 57), (ub 58), (ub 59), (ub 60), (ub 61), (ub 62), (ub 63), bv a9, (ub 65), (ub 66), (ub 67), (ub 68), iv v67.2, iv v67.2, (ub 71), (ub 72), (ub 73), (ub 74), .bool v75, .bool v75, (ub 77), (ub 78), (ub 79), (ub 80), (ub 81), (ub 82), (ub 83), bv (UInt8.ofNat (((p.locs.l.length : Nat) : Int) % 256).toNat), bv b85, (uc 86), bv b85, (uc 88), (uc 89), bv b85, bv v91, (uc 92), (uc 93), bv b85, bv v95, (uc 96), (uc 97), (uc 98), (uc 99), (uc 100), (uc 101), (uc 102), (uc 103), (uc 104), (uc 105), (uc 106), (uc 107), (uc 108), (uc 109), (uc 110), (uc 111), (uc 112), (uc 113), (uc 114), (uc 115), (uc 116), (uc 117), (uc 118), (uc 119), (uc 120), (tq a' 121), (tq a' 122), (tq a' 123), (tq a' 124), (tq a' 125), (tq a' 126), (tq a' 127), (tq a' 128), (tq a' 129), (tq a' 130), (tq a' 131), (tq a' 132), iv ((p.threads.l.length : Nat) : Int), iv ((d134 : Nat) : Int), (tq a' 135), (tq a' 136), (tq a' 137), (tq a' 138), (tq a' 139), (tq a' 140), (tq a' 141), (tq a' 142), (tq a' 143), (tq a' 144), (tq a' 145), (tq a' 146), (tq a' 147), (tq a' 148), (tq a' 149), (tq a' 150), (tq a' 151), (tq a' 152), (tq a' 153), (tq a' 154), (tq a' 155), (tq a' 156), (tq a' 157), (tq a' 158), (tq a' 159), (tq a' 160), (tq a' 161), (tq a' 162), (tq a' 163), (tq a' 164), (tq a' 165), (tq a' 166), (tq a' 167), (tq a' 168), (tq a' 169), (tq a' 170), (tq a' 171), (tq a' 172), (ub 173), undef], []⟩ ∧ Own w [] [FreshAt w (SlIn 3 Pass.cells (⟨x1_.1, x1_.2, (bMovesF p a9 ((bBehindF p a9 picks.l).1))⟩ : Sl Pass)), IsProg p, SlIn 1 eByte picks, Glob] [.blk b4 (.cells (enc v67.1).toArray 41 (0, 0)), .blk b3 (.cells (((bMovesF p a9 ((bBehindF p a9 picks.l).1)).getD (pick.toNat % (bMovesF p a9 ((bBehindF p a9 picks.l).1)).length) default).cells).toArray 50 (0, 0)), .blk b2 (.cells (enc (bBehindF p a9 picks.l).1).toArray 41 (0, 0)), .blk b1 (.cells (p.cells).toArray 29 (0, 0))] w' ∧ (d134 ≤ p.threads.l.length) ∧ (ownF p pso picks.l pick) = loopL (ownF_d p picks.l pick a9 v67 v75 b85) (ownF_dk b85 rb) (p.threads.l.drop d134) d134 ∧ m' = p.threads.l.length - d134) _ ⟨0, (by kernel_rfl), H, (by omega), hFc.trans (bf hc7), rfl⟩ ?_
     clear H
     rintro _ a_ w20 ⟨d134, ha_, H, hid0, hFd, rfl⟩
     obtain ⟨ud, hu_⟩ : ∃ ud : Nat → Value, a_ = ⟨#[(ua 0), .bool pso, picks.val, bv pick, .pointer (some ⟨b1, 0, none⟩), undef, undef, undef, (ud 8), bv a9, .pointer (some ⟨b2, 0, none⟩), (ub 11), (ub 12), .pointer (some ⟨b3, 0, none⟩), iv ((((bMovesF p a9 ((bBehindF p a9 picks.l).1)).getD (pick.toNat % (bMovesF p a9 ((bBehindF p a9 picks.l).1)).length) default).thread).toNat : Int), .pointer (some ⟨b4, 0, none⟩), iv v67.2, .bool (v75 && (!((bMovesF p a9 ((bBehindF p a9 picks.l).1)).getD (pick.toNat % (bMovesF p a9 ((bBehindF p a9 picks.l).1)).length) default).drain)), bv b85, bv c19, bv v95, (uc 21), (ud 22), (ua 23), (ub 24), (ub 25), bv a9, picks.val, (ub 28), (ub 29), (ub 30), (ub 31), bv a9, (ub 33), (ub 34), (ub 35), (ub 36), (ub 37), (ub 38), (ub 39), (ub 40), (ub 41), undef, undef, undef, undef, undef, undef, undef, undef, undef, (ub 51), bv pick, (ub 53), (ub 54), (ub 55), (ub 56), (ub 57), (ub 58), (ub 59), (ub 60), (ub 61), (ub 62), (ub 63), bv a9, (ub 65), (ub 66), (ub 67), (ub 68), iv v67.2, iv v67.2, (ub 71), (ub 72), (ub 73), (ub 74), .bool v75, .bool v75, (ub 77), (ub 78), (ub 79), (ub 80), (ub 81), (ub 82), (ub 83), bv (UInt8.ofNat (((p.locs.l.length : Nat) : Int) % 256).toNat), bv b85, (uc 86), bv b85, (uc 88), (uc 89), bv b85, bv v91, (uc 92), (uc 93), bv b85, bv v95, (uc 96), (uc 97), (uc 98), (uc 99), (uc 100), (uc 101), (uc 102), (uc 103), (uc 104), (uc 105), (uc 106), (uc 107), (uc 108), (uc 109), (uc 110), (uc 111), (uc 112), (uc 113), (uc 114), (uc 115), (uc 116), (uc 117), (uc 118), (uc 119), (uc 120), (ud 121), (ud 122), (ud 123), (ud 124), (ud 125), (ud 126), (ud 127), (ud 128), (ud 129), (ud 130), (ud 131), (ud 132), iv ((p.threads.l.length : Nat) : Int), iv ((d134 : Nat) : Int), (ud 135), (ud 136), (ud 137), (ud 138), (ud 139), (ud 140), (ud 141), (ud 142), (ud 143), (ud 144), (ud 145), (ud 146), (ud 147), (ud 148), (ud 149), (ud 150), (ud 151), (ud 152), (ud 153), (ud 154), (ud 155), (ud 156), (ud 157), (ud 158), (ud 159), (ud 160), (ud 161), (ud 162), (ud 163), (ud 164), (ud 165), (ud 166), (ud 167), (ud 168), (ud 169), (ud 170), (ud 171), (ud 172), (ub 173), undef], []⟩ := ⟨fun n => tq a_ n, ha_⟩
     clear ha_; subst hu_
     refine wp_seq ?_; refine wp_region_lit ?_; refine wr (rp_int_lss rfl ((d134 : Nat) : Int) ((p.threads.l.length : Nat) : Int) rfl rfl) ?_; simp only [N]
     refine wpList_nil ?_
     refine wp_seq ?_; refine wp_cond_split rfl (fun hc8 => ?_) (fun hc8 => ?_)
     · --T 8
      have hc8N8 : ((d134 : Nat) : Int) < ((p.threads.l.length : Nat) : Int) := (by simpa using hc8)
      obtain ⟨rd, hrd⟩ : ∃ r, r = loopL (ownF_d p picks.l pick a9 v67 v75 b85) (ownF_dk b85 rb) (p.threads.l.drop (d134 + 1)) := ⟨_, rfl⟩
      have hFd2 := hFd.trans (loopL_step (show d134 < p.threads.l.length by omega))
      rw [← hrd] at hFd2
      refine wp_skip ?_
      refine wp_seq ?_; refine wp_block ?_
      refine wp_seq ?_; refine wp_region_lit ?_; refine wmv (iv ((d134 : Nat) : Int)) ?_; simp only [N]
      refine wasg (iv ((d134 : Nat) : Int)) ?_; simp only [N]
      refine wpList_nil ?_
      refine wp_seq ?_; refine wp_region_own H (by kernel_rfl) (by kernel_rfl) ?_
      refine wq_run rfl (fun w H => rp_move rfl (v := iv ((d134 : Nat) : Int)) rfl) ?_; simp only [N]
      refine wq_run rfl (fun w H => rp_move rfl (v := iv ((((bMovesF p a9 ((bBehindF p a9 picks.l).1)).getD (pick.toNat % (bMovesF p a9 ((bBehindF p a9 picks.l).1)).length) default).thread).toNat : Int)) rfl) ?_; simp only [N]
      refine wq_run rfl (fun w H => rp_int_neq rfl ((d134 : Nat) : Int) ((((bMovesF p a9 ((bBehindF p a9 picks.l).1)).getD (pick.toNat % (bMovesF p a9 ((bBehindF p a9 picks.l).1)).length) default).thread).toNat : Int) rfl rfl) ?_; simp only [N]
      refine wq_run rfl (fun w H => rp_move rfl (v := .bool (((d134 : Nat) : Int) != ((((bMovesF p a9 ((bBehindF p a9 picks.l).1)).getD (pick.toNat % (bMovesF p a9 ((bBehindF p a9 picks.l).1)).length) default).thread).toNat : Int))) rfl) ?_; simp only [N]
      refine wq_g (wn_t rfl rfl) (v := .bool (v75 && (!((bMovesF p a9 ((bBehindF p a9 picks.l).1)).getD (pick.toNat % (bMovesF p a9 ((bBehindF p a9 picks.l).1)).length) default).drain))) (fun hg w H => rp_move rfl (v := .bool (v75 && (!((bMovesF p a9 ((bBehindF p a9 picks.l).1)).getD (pick.toNat % (bMovesF p a9 ((bBehindF p a9 picks.l).1)).length) default).drain))) rfl) ?_; simp only [N]
      refine wq_run rfl (fun w H => rp_pickA rfl (p := (((d134 : Nat) : Int) != ((((bMovesF p a9 ((bBehindF p a9 picks.l).1)).getD (pick.toNat % (bMovesF p a9 ((bBehindF p a9 picks.l).1)).length) default).thread).toNat : Int))) (q := (v75 && (!((bMovesF p a9 ((bBehindF p a9 picks.l).1)).getD (pick.toNat % (bMovesF p a9 ((bBehindF p a9 picks.l).1)).length) default).drain))) rfl rfl rfl) ?_; simp only [N]
      refine wq_run rfl (fun w H => rp_move rfl (v := .bool ((((d134 : Nat) : Int) != ((((bMovesF p a9 ((bBehindF p a9 picks.l).1)).getD (pick.toNat % (bMovesF p a9 ((bBehindF p a9 picks.l).1)).length) default).thread).toNat : Int)) && (v75 && (!((bMovesF p a9 ((bBehindF p a9 picks.l).1)).getD (pick.toNat % (bMovesF p a9 ((bBehindF p a9 picks.l).1)).length) default).drain)))) rfl) ?_; simp only [N]
      refine wq_g (wn_t rfl rfl) (v := .agg (enc v67.1).toArray) (fun hg w H => rp_loadWe H 0 rfl rfl rfl Tryz.underlying41 rfl (by first | exact sz41 | (rw [sz41]; congr 1; first | omega | (simp only [enc_length, List.size_toArray, List.length_set, List.length_append, List.length_take, List.length_drop, List.length_replicate]; omega) | (simp [-List.reduceReplicate]; done) | (simp [-List.reduceReplicate]; omega) | (simp [*, -List.reduceReplicate]; done) | (simp [*, -List.reduceReplicate]; omega))) rfl) ?_; simp only [N]
      refine wq_g (wn_t rfl rfl) (v := iv ((d134 : Nat) : Int)) (fun hg w H => rp_move rfl (v := iv ((d134 : Nat) : Int)) rfl) ?_; simp only [N]
      refine wq_g (wn_t rfl rfl) (v := bv b85) (fun hg w H => rp_move rfl (v := bv b85) rfl) ?_; simp only [N]
      refine wq_gE (wn_t rfl rfl) (fun hg => fun w => by simp only [gv_t hg]; exact rc_go Tryz.func15 (by kernel_rfl) rfl w) (v := bv (seenF v67.1 ((d134 : Nat) : Int) b85)) (fun hg w H => by have x13 : ((d134 : Nat) : Int) ≠ ((((bMovesF p a9 ((bBehindF p a9 picks.l).1)).getD (pick.toNat % (bMovesF p a9 ((bBehindF p a9 picks.l).1)).length) default).thread).toNat : Int) := (by simpa using (andl hg)); exact (seenF_spec v67.1 ((d134 : Nat) : Int) b85 (by first | omega | (simp only [enc_length, List.size_toArray, List.length_set, List.length_append, List.length_take, List.length_drop, List.length_replicate]; omega) | (simp [-List.reduceReplicate]; done) | (simp [-List.reduceReplicate]; omega) | (simp [*, -List.reduceReplicate]; done) | (simp [*, -List.reduceReplicate]; omega)) _ )) ?_; simp only [N]
      refine wq_g (wn_t rfl rfl) (v := .agg (enc (bBehindF p a9 picks.l).1).toArray) (fun hg w H => rp_loadWe H 2 rfl rfl rfl Tryz.underlying41 rfl (by first | exact sz41 | (rw [sz41]; congr 1; first | omega | (simp only [enc_length, List.size_toArray, List.length_set, List.length_append, List.length_take, List.length_drop, List.length_replicate]; omega) | (simp [-List.reduceReplicate]; done) | (simp [-List.reduceReplicate]; omega) | (simp [*, -List.reduceReplicate]; done) | (simp [*, -List.reduceReplicate]; omega))) rfl) ?_; simp only [N]
      refine wq_g (wn_t rfl rfl) (v := iv ((d134 : Nat) : Int)) (fun hg w H => rp_move rfl (v := iv ((d134 : Nat) : Int)) rfl) ?_; simp only [N]
      refine wq_g (wn_t rfl rfl) (v := bv b85) (fun hg w H => rp_move rfl (v := bv b85) rfl) ?_; simp only [N]
      refine wq_gE (wn_t rfl rfl) (fun hg => fun w => by simp only [gv_t hg]; exact rc_go Tryz.func15 (by kernel_rfl) rfl w) (v := bv (seenF ((bBehindF p a9 picks.l).1) ((d134 : Nat) : Int) b85)) (fun hg w H => by have x17 : ((d134 : Nat) : Int) ≠ ((((bMovesF p a9 ((bBehindF p a9 picks.l).1)).getD (pick.toNat % (bMovesF p a9 ((bBehindF p a9 picks.l).1)).length) default).thread).toNat : Int) := (by simpa using (andl hg)); exact (seenF_spec ((bBehindF p a9 picks.l).1) ((d134 : Nat) : Int) b85 (by first | omega | (simp only [enc_length, List.size_toArray, List.length_set, List.length_append, List.length_take, List.length_drop, List.length_replicate]; omega) | (simp [-List.reduceReplicate]; done) | (simp [-List.reduceReplicate]; omega) | (simp [*, -List.reduceReplicate]; done) | (simp [*, -List.reduceReplicate]; omega)) _ )) ?_; simp only [N]
      refine wq_g (wn_t rfl rfl) (v := .bool ((seenF v67.1 ((d134 : Nat) : Int) b85) != (seenF ((bBehindF p a9 picks.l).1) ((d134 : Nat) : Int) b85))) (fun hg w H => by have x18 : ((d134 : Nat) : Int) ≠ ((((bMovesF p a9 ((bBehindF p a9 picks.l).1)).getD (pick.toNat % (bMovesF p a9 ((bBehindF p a9 picks.l).1)).length) default).thread).toNat : Int) := (by simpa using (andl hg)); exact (by simp only [gv_t hg]; exact rp_u8_neq rfl (seenF v67.1 ((d134 : Nat) : Int) b85) (seenF ((bBehindF p a9 picks.l).1) ((d134 : Nat) : Int) b85) rfl rfl)) ?_; simp only [N]
      refine wq_run rfl (fun w H => rp_pickA rfl (p := ((((d134 : Nat) : Int) != ((((bMovesF p a9 ((bBehindF p a9 picks.l).1)).getD (pick.toNat % (bMovesF p a9 ((bBehindF p a9 picks.l).1)).length) default).thread).toNat : Int)) && (v75 && (!((bMovesF p a9 ((bBehindF p a9 picks.l).1)).getD (pick.toNat % (bMovesF p a9 ((bBehindF p a9 picks.l).1)).length) default).drain)))) (q := ((seenF v67.1 ((d134 : Nat) : Int) b85) != (seenF ((bBehindF p a9 picks.l).1) ((d134 : Nat) : Int) b85))) rfl rfl rfl) ?_; simp only [N]
      refine wq_run rfl (fun w H => rp_move rfl (v := .bool (((((d134 : Nat) : Int) != ((((bMovesF p a9 ((bBehindF p a9 picks.l).1)).getD (pick.toNat % (bMovesF p a9 ((bBehindF p a9 picks.l).1)).length) default).thread).toNat : Int)) && (v75 && (!((bMovesF p a9 ((bBehindF p a9 picks.l).1)).getD (pick.toNat % (bMovesF p a9 ((bBehindF p a9 picks.l).1)).length) default).drain))) && ((seenF v67.1 ((d134 : Nat) : Int) b85) != (seenF ((bBehindF p a9 picks.l).1) ((d134 : Nat) : Int) b85)))) rfl) ?_; simp only [N]
      refine wq_g (wn_f rfl rfl) (v := iv ((d134 : Nat) : Int)) (fun hg w H => rp_move rfl (v := iv ((d134 : Nat) : Int)) rfl) ?_; simp only [N]
      refine wq_g (wn_f rfl rfl) (v := .pointer (some ⟨b2, 138, none⟩)) (fun hg w H => rp_fieldAddr rfl Tryz.underlying41 rfl 138 rfl sz39 rfl 138 rfl) ?_; simp only [N]
      refine wq_g (wn_f rfl rfl) (v := .pointer (some ⟨b2, 138 + d134, none⟩)) (fun hg w H => by simp only [gv_t hg]; exact rp_indexAddr_arr rfl Tryz.underlying39 sz5 rfl d134 rfl (by omega) (138 + d134) (by omega)) ?_; simp only [N]
      refine wq_g (wn_f rfl rfl) (v := bv ((bBehindF p a9 picks.l).1.getD (138 + d134) 0)) (fun hg w H => by simp only [gv_t hg]; exact rp_load1e H 2 rfl rfl rfl Tryz.underlying5 rfl (138 + d134) rfl (by first | omega | (simp only [enc_length, List.size_toArray, List.length_set, List.length_append, List.length_take, List.length_drop, List.length_replicate]; omega) | (simp [-List.reduceReplicate]; done) | (simp [-List.reduceReplicate]; omega) | (simp [*, -List.reduceReplicate]; done) | (simp [*, -List.reduceReplicate]; omega))) ?_; simp only [N]
      refine wq_g (wn_f rfl rfl) (v := .bool (((bBehindF p a9 picks.l).1.getD (138 + d134) 0) == (0 : UInt8))) (fun hg w H => by simp only [gv_t hg]; exact rp_u8_eql rfl ((bBehindF p a9 picks.l).1.getD (138 + d134) 0) (0 : UInt8) rfl rfl) ?_; simp only [N]
      refine wq_g (wn_f rfl rfl) (v := .bool (((bBehindF p a9 picks.l).1.getD (138 + d134) 0) == (0 : UInt8))) (fun hg w H => by simp only [gv_t hg]; exact rp_move rfl (v := .bool (((bBehindF p a9 picks.l).1.getD (138 + d134) 0) == (0 : UInt8))) rfl) ?_; simp only [N]
      refine wq_g (wn_tg rfl rfl rfl) (v := .agg (enc (bBehindF p a9 picks.l).1).toArray) (fun hg w H => rp_loadWe H 2 rfl rfl rfl Tryz.underlying41 rfl (by first | exact sz41 | (rw [sz41]; congr 1; first | omega | (simp only [enc_length, List.size_toArray, List.length_set, List.length_append, List.length_take, List.length_drop, List.length_replicate]; omega) | (simp [-List.reduceReplicate]; done) | (simp [-List.reduceReplicate]; omega) | (simp [*, -List.reduceReplicate]; done) | (simp [*, -List.reduceReplicate]; omega))) rfl) ?_; simp only [N]
      refine wq_g (wn_tg rfl rfl rfl) (v := iv ((d134 : Nat) : Int)) (fun hg w H => rp_move rfl (v := iv ((d134 : Nat) : Int)) rfl) ?_; simp only [N]
      refine wq_g (wn_tg rfl rfl rfl) (v := bv b85) (fun hg w H => rp_move rfl (v := bv b85) rfl) ?_; simp only [N]
      refine wq_gE (wn_tg rfl rfl rfl) (fun hg => fun w => by simp only [gv_t hg]; exact rc_go Tryz.func15 (by kernel_rfl) rfl w) (v := bv (seenF ((bBehindF p a9 picks.l).1) ((d134 : Nat) : Int) b85)) (fun hg w H => by have x22 : ((bBehindF p a9 picks.l).1.getD (138 + d134) 0).toNat = 0 := u8_eq (andr hg); exact (seenF_spec ((bBehindF p a9 picks.l).1) ((d134 : Nat) : Int) b85 (by first | omega | (simp only [enc_length, List.size_toArray, List.length_set, List.length_append, List.length_take, List.length_drop, List.length_replicate]; omega) | (simp [-List.reduceReplicate]; done) | (simp [-List.reduceReplicate]; omega) | (simp [*, -List.reduceReplicate]; done) | (simp [*, -List.reduceReplicate]; omega)) _ )) ?_; simp only [N]
      refine wq_g (wn_tg rfl rfl rfl) (v := bv b85) (fun hg w H => rp_move rfl (v := bv b85) rfl) ?_; simp only [N]
      refine wq_g (wn_tg rfl rfl rfl) (v := .pointer (some ⟨b2, 36, none⟩)) (fun hg w H => rp_fieldAddr rfl Tryz.underlying41 rfl 36 rfl sz34 rfl 36 rfl) ?_; simp only [N]
      refine wq_g (wn_tg rfl rfl rfl) (v := .pointer (some ⟨b2, 36 + b85.toNat, none⟩)) (fun hg w H => by have x25 : ((bBehindF p a9 picks.l).1.getD (138 + d134) 0).toNat = 0 := u8_eq (andr hg); exact (by simp only [gv_t hg]; exact rp_indexAddr_arr rfl Tryz.underlying34 sz5 rfl b85.toNat rfl (by omega) (36 + b85.toNat) (by omega))) ?_; simp only [N]
      refine wq_g (wn_tg rfl rfl rfl) (v := bv ((bBehindF p a9 picks.l).1.getD (36 + b85.toNat) 0)) (fun hg w H => by have x26 : ((bBehindF p a9 picks.l).1.getD (138 + d134) 0).toNat = 0 := u8_eq (andr hg); exact (by simp only [gv_t hg]; exact rp_load1e H 2 rfl rfl rfl Tryz.underlying5 rfl (36 + b85.toNat) rfl (by first | omega | (simp only [enc_length, List.size_toArray, List.length_set, List.length_append, List.length_take, List.length_drop, List.length_replicate]; omega) | (simp [-List.reduceReplicate]; done) | (simp [-List.reduceReplicate]; omega) | (simp [*, -List.reduceReplicate]; done) | (simp [*, -List.reduceReplicate]; omega)))) ?_; simp only [N]
      refine wq_g (wn_tg rfl rfl rfl) (v := .bool ((seenF ((bBehindF p a9 picks.l).1) ((d134 : Nat) : Int) b85) != ((bBehindF p a9 picks.l).1.getD (36 + b85.toNat) 0))) (fun hg w H => by have x27 : ((bBehindF p a9 picks.l).1.getD (138 + d134) 0).toNat = 0 := u8_eq (andr hg); exact (by simp only [gv_t hg]; exact rp_u8_neq rfl (seenF ((bBehindF p a9 picks.l).1) ((d134 : Nat) : Int) b85) ((bBehindF p a9 picks.l).1.getD (36 + b85.toNat) 0) rfl rfl)) ?_; simp only [N]
      refine wq_g (wn_f rfl rfl) (v := .bool ((((bBehindF p a9 picks.l).1.getD (138 + d134) 0) == (0 : UInt8)) && ((seenF ((bBehindF p a9 picks.l).1) ((d134 : Nat) : Int) b85) != ((bBehindF p a9 picks.l).1.getD (36 + b85.toNat) 0)))) (fun hg w H => rp_pickAg rfl (p := (((bBehindF p a9 picks.l).1.getD (138 + d134) 0) == (0 : UInt8))) (q := ((seenF ((bBehindF p a9 picks.l).1) ((d134 : Nat) : Int) b85) != ((bBehindF p a9 picks.l).1.getD (36 + b85.toNat) 0))) hg rfl rfl rfl) ?_; simp only [N]
      refine wq_run rfl (fun w H => rp_pickO rfl (p := (((((d134 : Nat) : Int) != ((((bMovesF p a9 ((bBehindF p a9 picks.l).1)).getD (pick.toNat % (bMovesF p a9 ((bBehindF p a9 picks.l).1)).length) default).thread).toNat : Int)) && (v75 && (!((bMovesF p a9 ((bBehindF p a9 picks.l).1)).getD (pick.toNat % (bMovesF p a9 ((bBehindF p a9 picks.l).1)).length) default).drain))) && ((seenF v67.1 ((d134 : Nat) : Int) b85) != (seenF ((bBehindF p a9 picks.l).1) ((d134 : Nat) : Int) b85)))) (q := ((((bBehindF p a9 picks.l).1.getD (138 + d134) 0) == (0 : UInt8)) && ((seenF ((bBehindF p a9 picks.l).1) ((d134 : Nat) : Int) b85) != ((bBehindF p a9 picks.l).1.getD (36 + b85.toNat) 0)))) rfl rfl rfl) ?_; simp only [N]
      refine wq_nil ?_
      clear H; intro w21 H
      refine wp_cond_split rfl (fun hc9 => ?_) (fun hc9 => ?_)
      · --T 9
       refine wp_seq ?_; refine wp_region_lit ?_; refine wasg (.bool false) ?_; simp only [N]
       refine wpList_nil ?_
       refine wp_ret ?_
       try simp only [Exit.inBlock, Exit.then, cutP]
       refine bodyPost_ret (results1 rfl (rv_tmp rfl)) rfl ?_
       have hF : (ownF p pso picks.l pick) = false := hFd2.trans (bt hc9)
       rw [hF]
       exact ⟨rfl, H.ext⟩
      · --F 9
       refine wp_skip ?_
       refine wp_region_lit ?_; refine wr (rp_int_add rfl ((d134 : Nat) : Int) (1 : Int) rfl rfl (by omega)) ?_; simp only [N]
       refine wmv (iv (((d134 : Nat) : Int) + (1 : Int))) ?_; simp only [N]
       refine wpList_nil ?_
       show ∃ n', n' < _ ∧ _
       refine ⟨_, ?_, (d134 + 1), (by kernel_rfl), H, (by omega), (hFd2.trans (bf hc9)).trans (congrFun hrd _), rfl⟩
       omega
     · --F 8
      have hc8N28 : ((p.threads.l.length : Nat) : Int) ≤ ((d134 : Nat) : Int) := (by simpa using hc8)
      have hFd2 := hFd.trans (loopL_end (show p.threads.l.length ≤ d134 by omega))
      refine wp_exit ?_
      refine wp_region_lit ?_; refine wr (rp_u8_add rfl b85 (1 : UInt8) rfl rfl) ?_; simp only [N]
      refine wmv (bv (b85 + (1 : UInt8))) ?_; simp only [N]
      refine wpList_nil ?_
      show ∃ n', n' < _ ∧ _
      refine ⟨_, ?_, (b85 + (1 : UInt8)), nb, (by kernel_rfl), H, (by have hs1 := u8_succ hc4; omega), hFd2.trans (congrFun hrb _), rfl⟩
      have hs1 := u8_succ hc4; omega
   · --F 4
    have hc4N29 : (UInt8.ofNat (((p.locs.l.length : Nat) : Int) % 256).toNat).toNat ≤ b85.toNat := u8_ge hc4
    refine wp_exit ?_
    refine wp_seq ?_; refine wp_region_lit ?_; refine wl_callE H rfl (rc_go Tryz.func12 (by kernel_rfl) rfl) (awakeB_spec' _ (H.ro_at 3 rfl)) ?_
    clear H; intro w22 H
    simp only [N]
    refine wasg (.bool true) ?_; simp only [N]
    refine wpList_nil ?_
    refine wp_ret ?_
    try simp only [Exit.inBlock, Exit.then, cutP]
    refine bodyPost_ret (results1 rfl (rv_tmp rfl)) rfl ?_
    have hF : (ownF p pso picks.l pick) = true := hFb.trans (bf hc4)
    rw [hF]
    exact ⟨rfl, H.ext⟩

end Go.Proofs.YtimonjemjhecoaaGreatDoor
