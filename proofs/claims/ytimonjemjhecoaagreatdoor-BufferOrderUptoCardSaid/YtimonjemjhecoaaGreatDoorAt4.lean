/- Walks, printed by a program of this repository (wip/tool). -/
import Derived.Test.YtimonjemjhecoaaGreatDoorCk5
import Derived.Test.YtimonjemjhecoaaGreatDoorAt3
import Derived.Test.YtimonjemjhecoaaGreatDoorSxArr
namespace Go.Proofs.YtimonjemjhecoaaGreatDoor
open Go.RowKit
open Go
attribute [local irreducible] wpList wpQuiet wpX Code.wp
set_option maxHeartbeats 1000000
set_option maxRecDepth 100000
set_option linter.unusedSimpArgs false
set_option linter.unusedVariables false

def aRightF_a (p : Prog) (s : List UInt8) (ra : Nat → Bool) : Nat → Bool := fun s_ => match s_ with | a15 => bif (((decide ((a15 : Int) < (p.threads.l.length : Int))) && (decide ((((p.threads.l.getD a15 default).l.length : Nat) : Int) < ((((((s.drop 0).take 36).drop (a15 * 9)).take 9).getD 0 0).toNat : Int)))) || ((decide ((p.threads.l.length : Int) ≤ (a15 : Int))) && (!(decide (((((s.drop 0).take 36).drop (a15 * 9)).take 9) = (((List.replicate 142 (0 : UInt8)).drop (a15 * 9)).take 9)))))) then false else (ra (a15 + 1))
def aRightF_b (p : Prog) (s : List UInt8) (rb : Nat → Bool) : Nat → Bool := fun s_ => match s_ with | b54 => bif ((decide ((p.locs.l.length : Int) ≤ (b54 : Int))) && ((((s.drop 36).take 6).getD b54 0) != (0 : UInt8))) then false else (rb (b54 + 1))
def aRightF_bk (s : List UInt8) : Nat → Bool := fun s_ => match s_ with | b54 => ((decide (((s.drop 42).take 96) = (((List.replicate 142 (0 : UInt8)).drop 42).take 96))) && (decide (((s.drop 138).take 4) = (((List.replicate 142 (0 : UInt8)).drop 138).take 4))))
def aRightF_ak (p : Prog) (s : List UInt8) : Nat → Bool := fun s_ => match s_ with | a15 => loopN (aRightF_b p s) (aRightF_bk s) (6 - 0) 0
def aRightF (p : Prog) (s : List UInt8) : Bool :=
  bif ((rightF p) != (0 : Int)) then false else (loopN (aRightF_a p s) (aRightF_ak p s) (4 - 0) 0)


theorem aRightF_spec (p : Prog) (s : List UInt8) (hs : s.length = 142) (w : World) (hp : (IsProg p) w) (hg_ : Glob w) :
    Calls Tryz.prog 41 #[.agg p.cells.toArray, .agg (enc s).toArray] w fun e w' => e = .returned (.bool (aRightF p s)) ∧ Ext w w' := by
 have H := Own.start_ro w [IsProg p, Glob] (List.forall_mem_cons.2 ⟨fun w' hw => hp.keep hw, List.forall_mem_cons.2 ⟨fun w' hw => hg_.keep hw, fun _ h => by cases h⟩⟩)
 have hcp1 := hp.locs.2.2
 have hcp2 := hp.init.2.2
 have hcp3 := hp.threads.2.2
 go_enter Tryz.func41, Tryz.ntmps41
 refine wsr ?_
 refine wl_box H rfl rfl (v := .agg (p.cells).toArray) rfl ?_
 clear H; intro b1 w1 hnb1 H; dsimp only [Value.cells] at H
 simp only [N]
 refine wl_box H rfl rfl (v := .agg (enc s).toArray) rfl ?_
 clear H; intro b2 w2 hnb2 H; dsimp only [Value.cells] at H
 simp only [N]
 refine wasg (.bool false) ?_; simp only [N]
 refine wpList_nil ?_
 refine wp_seq ?_; refine wsr ?_
 refine wr (rp_loadN H 1 rfl rfl rfl Tryz.underlying29 rfl sz29 (Nat.le_of_ble_eq_true rfl) (cs' := p.cells) rfl) ?_; simp only [N]
 refine wl_callE H rfl (rc_go Tryz.func11 (by kernel_rfl) rfl) (rightF_spec p _ (H.ro_at 0 rfl) (H.ro_at 1 rfl)) ?_
 clear H; intro w3 H
 simp only [N]
 refine wr (rp_int_neq rfl (rightF p) (0 : Int) rfl rfl) ?_; simp only [N]
 refine wpList_nil ?_
 refine wp_cond_split rfl (fun hc1 => ?_) (fun hc1 => ?_)
 · --T 1
  have hc1N1 : (rightF p) ≠ (0 : Int) := (by simpa using hc1)
  refine wsr ?_
  refine wasg (.bool false) ?_; simp only [N]
  refine wpList_nil ?_
  refine wp_ret ?_
  try simp only [Exit.inBlock, Exit.then, cutP]
  refine bodyPost_ret (results1 rfl (rv_tmp rfl)) rfl ?_
  have hF : (aRightF p s) = false := bt hc1
  rw [hF]
  exact ⟨rfl, H.ext⟩
 · --F 1
  have hc1N2 : (rightF p) = (0 : Int) := (by simpa using hc1)
  refine wp_skip ?_
  refine wsr ?_
  refine wl_alloc H rfl rfl zv41 ?_
  clear H; intro b3 w4 hnb3 H; dsimp only [Value.cells] at H
  simp only [N]
  simp only [enc_replicate] at H
  refine wpList_nil ?_
  refine wp_seq ?_; refine wsr ?_
  refine wr (rp_fieldAddr rfl Tryz.underlying41 rfl 0 rfl sz33 rfl 0 rfl) ?_; simp only [N]
  refine wr (rp_loadNA H 1 rfl rfl rfl Tryz.underlying33 rfl sz33 0) ?_; simp only [N]
  refine wmv (iv (0 : Int)) ?_; simp only [N]
  refine wpList_nil ?_
  refine wp_block ?_
  refine wp_loopX (fun m' a' w' => ∃ (a15 : Nat) (u4 u6 u7 u16 u17 u18 u19 u20 u21 u22 u23 u24 u25 u26 u27 u28 u29 u30 u31 u32 u33 u34 u35 u36 u37 u38 u39 u40 u41 u42 u43 u44 u45 u46 u47 u48 u49 u50 u51 : Value), a' = ⟨#[.agg (p.cells).toArray, .agg (enc s).toArray, .pointer (some ⟨b1, 0, none⟩), .pointer (some ⟨b2, 0, none⟩), u4, .pointer (some ⟨b3, 0, none⟩), u6, u7, uU, uU, .agg (p.cells).toArray, iv (rightF p), .bool ((rightF p) != (0 : Int)), .pointer (some ⟨b2, 0, none⟩), .agg (enc ((s.drop 0).take 36)).toArray, iv (a15 : Int), u16, u17, u18, u19, u20, u21, u22, u23, u24, u25, u26, u27, u28, u29, u30, u31, u32, u33, u34, u35, u36, u37, u38, u39, u40, u41, u42, u43, u44, u45, u46, u47, u48, u49, u50, u51, uU, uU, uU, uU, uU, uU, uU, uU, uU, uU, uU, uU, uU, uU, uU, uU, uU, uU, uU, uU, uU, uU, uU, uU, uU, uU, uU, uU], []⟩ ∧ Own w [] [IsProg p, Glob] [.blk b3 (.cells (enc (List.replicate 142 (0 : UInt8))).toArray 41 (0, 0)), .blk b2 (.cells (enc s).toArray 41 (0, 0)), .blk b1 (.cells (p.cells).toArray 29 (0, 0))] w' ∧ (a15 ≤ 4) ∧ (aRightF p s) = loopN (aRightF_a p s) (aRightF_ak p s) (4 - a15) a15 ∧ m' = 4 - a15) _ ⟨0, _, _, _, _, _, _, _, _, _, _, _, _, _, _, _, _, _, _, _, _, _, _, _, _, _, _, _, _, _, _, _, _, _, _, _, _, _, _, _, rfl, H, (by omega), bf hc1, rfl⟩ ?_
  clear H
  rintro _ _ w5 ⟨a15, u4, u6, u7, u16, u17, u18, u19, u20, u21, u22, u23, u24, u25, u26, u27, u28, u29, u30, u31, u32, u33, u34, u35, u36, u37, u38, u39, u40, u41, u42, u43, u44, u45, u46, u47, u48, u49, u50, u51, rfl, H, hia0, hFa, rfl⟩
  refine wsr ?_
  refine wr (rp_int_lss rfl (a15 : Int) (4 : Int) rfl rfl) ?_; simp only [N]
  refine wpList_nil ?_
  refine wp_seq ?_; refine wp_cond_split rfl (fun hc2 => ?_) (fun hc2 => ?_)
  · --T 2
   have hc2N3 : (a15 : Int) < (4 : Int) := (by simpa using hc2)
   obtain ⟨ra, hra⟩ : ∃ r, r = loopN (aRightF_a p s) (aRightF_ak p s) (4 - (a15 + 1)) := ⟨_, rfl⟩
   have hFa2 := hFa.trans (loopN_step (show a15 < 4 by omega))
   rw [← hra] at hFa2
   refine wp_skip ?_
   refine wp_seq ?_; refine wp_block ?_
   refine wsr ?_
   refine wmv (iv (a15 : Int)) ?_; simp only [N]
   refine wr (rp_index_encN rfl Tryz.underlying33 sz32 Tryz.underlying32 rfl rfl a15 rfl (by omega)) ?_; simp only [N]
   refine wl_alloc H rfl rfl zv32 ?_
   clear H; intro b4 w6 hnb4 H; dsimp only [Value.cells] at H
   simp only [N]
   replace H : Own w [] [IsProg p, Glob] [.blk b4 (.cells (enc (List.replicate 9 (0 : UInt8))).toArray 32 (0, 0)), .blk b3 (.cells (enc (List.replicate 142 (0 : UInt8))).toArray 41 (0, 0)), .blk b2 (.cells (enc s).toArray 41 (0, 0)), .blk b1 (.cells (p.cells).toArray 29 (0, 0))] _ := H
   refine wasg (iv (a15 : Int)) ?_; simp only [N]
   refine wl_storeA H 0 rfl rfl rfl rfl ((((s.drop 0).take 36).drop (a15 * 9)).take 9) rfl sz32 ?_
   clear H; intro w7 H; simp only [M] at H
   simp only [N]
   refine wpList_nil ?_
   refine wp_seq ?_; refine wp_region_own H (by kernel_rfl) (by kernel_rfl) ?_
   refine wq_run rfl (fun w H => rp_move rfl (v := iv (a15 : Int)) rfl) ?_; simp only [N]
   refine wq_run rfl (fun w H => rp_fieldAddr rfl Tryz.underlying29 rfl 3 rfl sz24 rfl 3 rfl) ?_; simp only [N]
   refine wq_run rfl (fun w H => rp_load1 H 3 rfl rfl rfl Tryz.underlying24 rfl (v := p.threads.val) rfl) ?_; simp only [N]
   refine wq_run rfl (fun w H => rp_len_sl (s := p.threads) Tryz.underlying24 rfl) ?_; simp only [N]
   refine wq_run rfl (fun w H => rp_int_lss rfl (a15 : Int) (p.threads.l.length : Int) rfl rfl) ?_; simp only [N]
   refine wq_run rfl (fun w H => rp_move rfl (v := .bool (decide ((a15 : Int) < (p.threads.l.length : Int)))) rfl) ?_; simp only [N]
   refine wq_g (wn_t rfl rfl) (v := .pointer (some ⟨b4, 0, none⟩)) (fun hg w H => rp_fieldAddr rfl Tryz.underlying32 rfl 0 rfl sz5 rfl 0 rfl) ?_; simp only [N]
   refine wq_g (wn_t rfl rfl) (v := bv (((((s.drop 0).take 36).drop (a15 * 9)).take 9).getD 0 0)) (fun hg w H => by have x5 : (a15 : Int) < (p.threads.l.length : Int) := (by simpa using hg); exact (by simp only [gv_t hg]; exact rp_load1A H 0 rfl rfl rfl Tryz.underlying5 rfl 0 rfl)) ?_; simp only [N]
   refine wq_g (wn_t rfl rfl) (v := iv ((((((s.drop 0).take 36).drop (a15 * 9)).take 9).getD 0 0).toNat : Int)) (fun hg w H => by have x6 : (a15 : Int) < (p.threads.l.length : Int) := (by simpa using hg); exact (by simp only [gv_t hg]; exact rp_u8_to_int rfl Tryz.underlying5 Tryz.underlying3 (((((s.drop 0).take 36).drop (a15 * 9)).take 9).getD 0 0) rfl)) ?_; simp only [N]
   refine wq_g (wn_t rfl rfl) (v := .pointer (some ⟨b1, 3, none⟩)) (fun hg w H => rp_fieldAddr rfl Tryz.underlying29 rfl 3 rfl sz24 rfl 3 rfl) ?_; simp only [N]
   refine wq_g (wn_t rfl rfl) (v := p.threads.val) (fun hg w H => by have x8 : (a15 : Int) < (p.threads.l.length : Int) := (by simpa using hg); exact (by simp only [gv_t hg]; exact rp_load1 H 3 rfl rfl rfl Tryz.underlying24 rfl (v := p.threads.val) rfl)) ?_; simp only [N]
   refine wq_g (wn_t rfl rfl) (v := iv (a15 : Int)) (fun hg w H => rp_move rfl (v := iv (a15 : Int)) rfl) ?_; simp only [N]
   refine wq_g (wn_t rfl rfl) (v := .pointer (some ⟨p.threads.blk, p.threads.off + a15 * 1, none⟩)) (fun hg w H => by have x10 : (a15 : Int) < (p.threads.l.length : Int) := (by simpa using hg); exact (by simp only [gv_t hg]; exact rp_indexAddr_sl (IsProg.threads (H.ro_at 0 rfl)) rfl Tryz.underlying24 sz59 rfl a15 rfl (by omega))) ?_; simp only [N]
   refine wq_g (wn_t rfl rfl) (v := (p.threads.l.getD a15 default).val) (fun hg w H => by have x11 : (a15 : Int) < (p.threads.l.length : Int) := (by simpa using hg); exact (by simp only [gv_t hg]; exact rp_load1_sl (IsProg.threads (H.ro_at 0 rfl)) a15 (by omega) rfl Tryz.underlying59 rfl 0 rfl (by omega) (v := (p.threads.l.getD a15 default).val) rfl)) ?_; simp only [N]
   refine wq_g (wn_t rfl rfl) (v := iv (((p.threads.l.getD a15 default).l.length : Nat) : Int)) (fun hg w H => by have x12 : (a15 : Int) < (p.threads.l.length : Int) := (by simpa using hg); exact (by simp only [gv_t hg]; exact rp_len_sl (s := (p.threads.l.getD a15 default)) Tryz.underlying59 rfl)) ?_; simp only [N]
   refine wq_g (wn_t rfl rfl) (v := .bool (decide ((((p.threads.l.getD a15 default).l.length : Nat) : Int) < ((((((s.drop 0).take 36).drop (a15 * 9)).take 9).getD 0 0).toNat : Int)))) (fun hg w H => by have x13 : (a15 : Int) < (p.threads.l.length : Int) := (by simpa using hg); exact (by simp only [gv_t hg]; exact rp_int_gtr rfl ((((((s.drop 0).take 36).drop (a15 * 9)).take 9).getD 0 0).toNat : Int) (((p.threads.l.getD a15 default).l.length : Nat) : Int) rfl rfl)) ?_; simp only [N]
   refine wq_run rfl (fun w H => rp_pickA rfl (p := (decide ((a15 : Int) < (p.threads.l.length : Int)))) (q := (decide ((((p.threads.l.getD a15 default).l.length : Nat) : Int) < ((((((s.drop 0).take 36).drop (a15 * 9)).take 9).getD 0 0).toNat : Int)))) rfl rfl rfl) ?_; simp only [N]
   refine wq_run rfl (fun w H => rp_move rfl (v := .bool ((decide ((a15 : Int) < (p.threads.l.length : Int))) && (decide ((((p.threads.l.getD a15 default).l.length : Nat) : Int) < ((((((s.drop 0).take 36).drop (a15 * 9)).take 9).getD 0 0).toNat : Int))))) rfl) ?_; simp only [N]
   refine wq_g (wn_f rfl rfl) (v := iv (a15 : Int)) (fun hg w H => rp_move rfl (v := iv (a15 : Int)) rfl) ?_; simp only [N]
   refine wq_g (wn_f rfl rfl) (v := .pointer (some ⟨b1, 3, none⟩)) (fun hg w H => rp_fieldAddr rfl Tryz.underlying29 rfl 3 rfl sz24 rfl 3 rfl) ?_; simp only [N]
   refine wq_g (wn_f rfl rfl) (v := p.threads.val) (fun hg w H => by simp only [gv_t hg]; exact rp_load1 H 3 rfl rfl rfl Tryz.underlying24 rfl (v := p.threads.val) rfl) ?_; simp only [N]
   refine wq_g (wn_f rfl rfl) (v := iv (p.threads.l.length : Int)) (fun hg w H => by simp only [gv_t hg]; exact rp_len_sl (s := p.threads) Tryz.underlying24 rfl) ?_; simp only [N]
   refine wq_g (wn_f rfl rfl) (v := .bool (decide ((p.threads.l.length : Int) ≤ (a15 : Int)))) (fun hg w H => by simp only [gv_t hg]; exact rp_int_geq rfl (a15 : Int) (p.threads.l.length : Int) rfl rfl) ?_; simp only [N]
   refine wq_g (wn_f rfl rfl) (v := .bool (decide ((p.threads.l.length : Int) ≤ (a15 : Int)))) (fun hg w H => by simp only [gv_t hg]; exact rp_move rfl (v := .bool (decide ((p.threads.l.length : Int) ≤ (a15 : Int)))) rfl) ?_; simp only [N]
   refine wq_g (wn_tg rfl rfl rfl) (v := .agg (enc ((((s.drop 0).take 36).drop (a15 * 9)).take 9)).toArray) (fun hg w H => rp_loadWA H 0 rfl rfl rfl Tryz.underlying32 rfl sz32 rfl) ?_; simp only [N]
   refine wq_g (wn_tg rfl rfl rfl) (v := iv (a15 : Int)) (fun hg w H => rp_move rfl (v := iv (a15 : Int)) rfl) ?_; simp only [N]
   refine wq_g (wn_tg rfl rfl rfl) (v := .pointer (some ⟨b3, 0, none⟩)) (fun hg w H => rp_fieldAddr rfl Tryz.underlying41 rfl 0 rfl sz33 rfl 0 rfl) ?_; simp only [N]
   refine wq_g (wn_tg rfl rfl rfl) (v := .pointer (some ⟨b3, a15 * 9, none⟩)) (fun hg w H => by have x17 : (p.threads.l.length : Int) ≤ (a15 : Int) := (by simpa using (andr hg)); exact (by simp only [gv_t hg]; exact rp_indexAddr_arr rfl Tryz.underlying33 sz32 rfl a15 rfl (by omega) (a15 * 9) (by omega))) ?_; simp only [N]
   refine wq_g (wn_tg rfl rfl rfl) (v := .agg (enc (((List.replicate 142 (0 : UInt8)).drop (a15 * 9)).take 9)).toArray) (fun hg w H => by have x18 : (p.threads.l.length : Int) ≤ (a15 : Int) := (by simpa using (andr hg)); exact (by simp only [gv_t hg]; exact rp_loadNA H 1 rfl rfl rfl Tryz.underlying32 rfl sz32 (a15 * 9))) ?_; simp only [N]
   refine wq_g (wn_tg rfl rfl rfl) (v := .bool (!(decide (((((s.drop 0).take 36).drop (a15 * 9)).take 9) = (((List.replicate 142 (0 : UInt8)).drop (a15 * 9)).take 9))))) (fun hg w H => by have x19 : (p.threads.l.length : Int) ≤ (a15 : Int) := (by simpa using (andr hg)); exact (by simp only [gv_t hg]; exact rp_neq_leafs rfl 6 (by decide) (by kernel_rfl) (by kernel_rfl) (ks := (List.replicate 9 (.int .u8))) (by kernel_rfl) (xs := enc ((((s.drop 0).take 36).drop (a15 * 9)).take 9)) (ys := enc (((List.replicate 142 (0 : UInt8)).drop (a15 * 9)).take 9)) rfl rfl (formed_enc Tryz.underlying32 rfl sz32 (by first | omega | simp [-List.reduceReplicate] <;> omega | simp [*, -List.reduceReplicate] <;> omega)) (formed_enc Tryz.underlying32 rfl sz32 (by first | omega | simp [-List.reduceReplicate] <;> omega | simp [*, -List.reduceReplicate] <;> omega)) (fits_enc (by first | omega | simp [-List.reduceReplicate] <;> omega | simp [*, -List.reduceReplicate] <;> omega)) (fits_enc (by first | omega | simp [-List.reduceReplicate] <;> omega | simp [*, -List.reduceReplicate] <;> omega)) (r := (decide (((((s.drop 0).take 36).drop (a15 * 9)).take 9) = (((List.replicate 142 (0 : UInt8)).drop (a15 * 9)).take 9)))) (by exact enc_iff _ _))) ?_; simp only [N]
   refine wq_g (wn_f rfl rfl) (v := .bool ((decide ((p.threads.l.length : Int) ≤ (a15 : Int))) && (!(decide (((((s.drop 0).take 36).drop (a15 * 9)).take 9) = (((List.replicate 142 (0 : UInt8)).drop (a15 * 9)).take 9)))))) (fun hg w H => rp_pickAg rfl (p := (decide ((p.threads.l.length : Int) ≤ (a15 : Int)))) (q := (!(decide (((((s.drop 0).take 36).drop (a15 * 9)).take 9) = (((List.replicate 142 (0 : UInt8)).drop (a15 * 9)).take 9))))) hg rfl rfl rfl) ?_; simp only [N]
   refine wq_run rfl (fun w H => rp_pickO rfl (p := ((decide ((a15 : Int) < (p.threads.l.length : Int))) && (decide ((((p.threads.l.getD a15 default).l.length : Nat) : Int) < ((((((s.drop 0).take 36).drop (a15 * 9)).take 9).getD 0 0).toNat : Int))))) (q := ((decide ((p.threads.l.length : Int) ≤ (a15 : Int))) && (!(decide (((((s.drop 0).take 36).drop (a15 * 9)).take 9) = (((List.replicate 142 (0 : UInt8)).drop (a15 * 9)).take 9)))))) rfl rfl rfl) ?_; simp only [N]
   refine wq_nil ?_
   clear H; intro w8 H
   refine wp_cond_split rfl (fun hc3 => ?_) (fun hc3 => ?_)
   · --T 3
    refine wsr ?_
    refine wasg (.bool false) ?_; simp only [N]
    refine wpList_nil ?_
    refine wp_ret ?_
    try simp only [Exit.inBlock, Exit.then, cutP]
    refine bodyPost_ret (results1 rfl (rv_tmp rfl)) rfl ?_
    have hF : (aRightF p s) = false := hFa2.trans (bt hc3)
    rw [hF]
    exact ⟨rfl, H.ext⟩
   · --F 3
    refine wp_skip ?_
    refine wp_region_lit ?_; refine wr (rp_int_add rfl (a15 : Int) (1 : Int) rfl rfl (by omega)) ?_; simp only [N]
    refine wmv (iv ((a15 : Int) + (1 : Int))) ?_; simp only [N]
    refine wpList_nil ?_
    replace H := H.dropNew 0 rfl (foot_blk hnb4); simp only [m5, m6] at H
    show ∃ n', n' < _ ∧ _
    refine ⟨_, ?_, (a15 + 1), _, _, _, _, _, _, _, _, _, _, _, _, _, _, _, _, _, _, _, _, _, _, _, _, _, _, _, _, _, _, _, _, _, _, _, _, _, _, _, rfl, H, (by omega), (hFa2.trans (bf hc3)).trans (congrFun hra _), rfl⟩
    omega
  · --F 2
   have hc2N20 : (4 : Int) ≤ (a15 : Int) := (by simpa using hc2)
   have hFa2 := hFa.trans (loopN_end (show 4 ≤ a15 by omega))
   refine wp_exit ?_
   refine wp_seq ?_; refine wsr ?_
   refine wr (rp_fieldAddr rfl Tryz.underlying41 rfl 36 rfl sz34 rfl 36 rfl) ?_; simp only [N]
   refine wr (rp_loadNA H 1 rfl rfl rfl Tryz.underlying34 rfl sz34 36) ?_; simp only [N]
   refine wmv (iv (0 : Int)) ?_; simp only [N]
   refine wpList_nil ?_
   refine wp_block ?_
   refine wp_loopX (fun m' a' w' => ∃ (b54 : Nat) (u4 u8 u9 u55 u56 u57 u58 u59 u60 u61 u62 u63 u64 u65 u66 u67 : Value), a' = ⟨#[.agg (p.cells).toArray, .agg (enc s).toArray, .pointer (some ⟨b1, 0, none⟩), .pointer (some ⟨b2, 0, none⟩), u4, .pointer (some ⟨b3, 0, none⟩), u6, u7, u8, u9, .agg (p.cells).toArray, iv (rightF p), .bool ((rightF p) != (0 : Int)), .pointer (some ⟨b2, 0, none⟩), .agg (enc ((s.drop 0).take 36)).toArray, iv (a15 : Int), .bool (decide ((a15 : Int) < (4 : Int))), u17, u18, u19, u20, u21, u22, u23, u24, u25, u26, u27, u28, u29, u30, u31, u32, u33, u34, u35, u36, u37, u38, u39, u40, u41, u42, u43, u44, u45, u46, u47, u48, u49, u50, u51, .pointer (some ⟨b2, 36, none⟩), .agg (enc ((s.drop 36).take 6)).toArray, iv (b54 : Int), u55, u56, u57, u58, u59, u60, u61, u62, u63, u64, u65, u66, u67, uU, uU, uU, uU, uU, uU, uU, uU, uU, uU, uU, uU], []⟩ ∧ Own w [] [IsProg p, Glob] [.blk b3 (.cells (enc (List.replicate 142 (0 : UInt8))).toArray 41 (0, 0)), .blk b2 (.cells (enc s).toArray 41 (0, 0)), .blk b1 (.cells (p.cells).toArray 29 (0, 0))] w' ∧ (b54 ≤ 6) ∧ (aRightF p s) = loopN (aRightF_b p s) (aRightF_bk s) (6 - b54) b54 ∧ m' = 6 - b54) _ ⟨0, _, _, _, _, _, _, _, _, _, _, _, _, _, _, _, _, rfl, H, (by omega), hFa2, rfl⟩ ?_
   clear H
   rintro _ _ w9 ⟨b54, u4, u8, u9, u55, u56, u57, u58, u59, u60, u61, u62, u63, u64, u65, u66, u67, rfl, H, hib0, hFb, rfl⟩
   refine wsr ?_
   refine wr (rp_int_lss rfl (b54 : Int) (6 : Int) rfl rfl) ?_; simp only [N]
   refine wpList_nil ?_
   refine wp_seq ?_; refine wp_cond_split rfl (fun hc4 => ?_) (fun hc4 => ?_)
   · --T 4
    have hc4N21 : (b54 : Int) < (6 : Int) := (by simpa using hc4)
    obtain ⟨rb, hrb⟩ : ∃ r, r = loopN (aRightF_b p s) (aRightF_bk s) (6 - (b54 + 1)) := ⟨_, rfl⟩
    have hFb2 := hFb.trans (loopN_step (show b54 < 6 by omega))
    rw [← hrb] at hFb2
    refine wp_skip ?_
    refine wp_seq ?_; refine wp_block ?_
    refine wsr ?_
    refine wmv (iv (b54 : Int)) ?_; simp only [N]
    refine wr (rp_index_enc1 rfl Tryz.underlying34 sz5 Tryz.underlying5 rfl rfl b54 rfl ⟨by omega, by first | omega | simp [-List.reduceReplicate] <;> omega | simp [*, -List.reduceReplicate] <;> omega⟩) ?_; simp only [N]
    refine wasg (iv (b54 : Int)) ?_; simp only [N]
    refine wasg (bv (((s.drop 36).take 6).getD b54 0)) ?_; simp only [N]
    refine wnr ?_
    refine wmv (iv (b54 : Int)) ?_; simp only [N]
    refine wr (rp_fieldAddr rfl Tryz.underlying29 rfl 1 rfl sz22 rfl 1 rfl) ?_; simp only [N]
    refine wr (rp_load1 H 2 rfl rfl rfl Tryz.underlying22 rfl (v := p.locs.val) rfl) ?_; simp only [N]
    refine wr (rp_len_sl (s := p.locs) Tryz.underlying22 rfl) ?_; simp only [N]
    refine wr (rp_int_geq rfl (b54 : Int) (p.locs.l.length : Int) rfl rfl) ?_; simp only [N]
    refine wmv (.bool (decide ((p.locs.l.length : Int) ≤ (b54 : Int)))) ?_; simp only [N]
    refine wl_g (wn_t rfl rfl) (v := bv (((s.drop 36).take 6).getD b54 0)) (fun hg => rp_move rfl (v := bv (((s.drop 36).take 6).getD b54 0)) rfl) ?_; simp only [N]
    refine wl_g (wn_t rfl rfl) (v := .bool ((((s.drop 36).take 6).getD b54 0) != (0 : UInt8))) (fun hg => by have x23 : (p.locs.l.length : Int) ≤ (b54 : Int) := (by simpa using hg); exact (by simp only [gv_t hg]; exact rp_u8_neq rfl (((s.drop 36).take 6).getD b54 0) (0 : UInt8) rfl rfl)) ?_; simp only [N]
    refine wr (rp_pickA rfl (p := (decide ((p.locs.l.length : Int) ≤ (b54 : Int)))) (q := ((((s.drop 36).take 6).getD b54 0) != (0 : UInt8))) rfl rfl rfl) ?_; simp only [N]
    refine wpList_nil ?_
    refine wp_cond_split rfl (fun hc5 => ?_) (fun hc5 => ?_)
    · --T 5
     have hc5N24 : (p.locs.l.length : Int) ≤ (b54 : Int) := (by simpa using (andl hc5))
     have hc5N25 : (((s.drop 36).take 6).getD b54 0).toNat ≠ 0 := u8_ne2 (andr hc5)
     refine wsr ?_
     refine wasg (.bool false) ?_; simp only [N]
     refine wpList_nil ?_
     refine wp_ret ?_
     try simp only [Exit.inBlock, Exit.then, cutP]
     refine bodyPost_ret (results1 rfl (rv_tmp rfl)) rfl ?_
     have hF : (aRightF p s) = false := hFb2.trans (bt hc5)
     rw [hF]
     exact ⟨rfl, H.ext⟩
    · --F 5
     refine wp_skip ?_
     refine wp_region_lit ?_; refine wr (rp_int_add rfl (b54 : Int) (1 : Int) rfl rfl (by omega)) ?_; simp only [N]
     refine wmv (iv ((b54 : Int) + (1 : Int))) ?_; simp only [N]
     refine wpList_nil ?_
     show ∃ n', n' < _ ∧ _
     refine ⟨_, ?_, (b54 + 1), _, _, _, _, _, _, _, _, _, _, _, _, _, _, _, _, rfl, H, (by omega), (hFb2.trans (bf hc5)).trans (congrFun hrb _), rfl⟩
     omega
   · --F 4
    have hc4N26 : (6 : Int) ≤ (b54 : Int) := (by simpa using hc4)
    have hFb2 := hFb.trans (loopN_end (show 6 ≤ b54 by omega))
    refine wp_exit ?_
    refine wsr ?_
    refine wr (rp_fieldAddr rfl Tryz.underlying41 rfl 42 rfl sz38 rfl 42 rfl) ?_; simp only [N]
    refine wr (rp_loadNA H 1 rfl rfl rfl Tryz.underlying38 rfl sz38 42) ?_; simp only [N]
    refine wr (rp_fieldAddr rfl Tryz.underlying41 rfl 42 rfl sz38 rfl 42 rfl) ?_; simp only [N]
    refine wr (rp_loadNA H 0 rfl rfl rfl Tryz.underlying38 rfl sz38 42) ?_; simp only [N]
    refine wr (rp_eql_leafs rfl 6 (by decide) (by kernel_rfl) (by kernel_rfl) (ks := (List.replicate 96 (.int .u8))) (by kernel_rfl) (xs := enc ((s.drop 42).take 96)) (ys := enc (((List.replicate 142 (0 : UInt8)).drop 42).take 96)) rfl rfl (formed_enc Tryz.underlying38 rfl sz38 (by first | omega | simp [-List.reduceReplicate] <;> omega | simp [*, -List.reduceReplicate] <;> omega)) (formed_enc Tryz.underlying38 rfl sz38 (by first | omega | simp [-List.reduceReplicate] <;> omega | simp [*, -List.reduceReplicate] <;> omega)) (fits_enc (by first | omega | simp [-List.reduceReplicate] <;> omega | simp [*, -List.reduceReplicate] <;> omega)) (fits_enc (by first | omega | simp [-List.reduceReplicate] <;> omega | simp [*, -List.reduceReplicate] <;> omega)) (r := (decide (((s.drop 42).take 96) = (((List.replicate 142 (0 : UInt8)).drop 42).take 96)))) (by exact enc_iff _ _)) ?_; simp only [N]
    refine wmv (.bool (decide (((s.drop 42).take 96) = (((List.replicate 142 (0 : UInt8)).drop 42).take 96)))) ?_; simp only [N]
    refine wl_g (wn_t rfl rfl) (v := .pointer (some ⟨b2, 138, none⟩)) (fun hg => rp_fieldAddr rfl Tryz.underlying41 rfl 138 rfl sz39 rfl 138 rfl) ?_; simp only [N]
    refine wl_g (wn_t rfl rfl) (v := .agg (enc ((s.drop 138).take 4)).toArray) (fun hg => by simp only [gv_t hg]; exact rp_loadNA H 1 rfl rfl rfl Tryz.underlying39 rfl sz39 138) ?_; simp only [N]
    refine wl_g (wn_t rfl rfl) (v := .pointer (some ⟨b3, 138, none⟩)) (fun hg => rp_fieldAddr rfl Tryz.underlying41 rfl 138 rfl sz39 rfl 138 rfl) ?_; simp only [N]
    refine wl_g (wn_t rfl rfl) (v := .agg (enc (((List.replicate 142 (0 : UInt8)).drop 138).take 4)).toArray) (fun hg => by simp only [gv_t hg]; exact rp_loadNA H 0 rfl rfl rfl Tryz.underlying39 rfl sz39 138) ?_; simp only [N]
    refine wl_g (wn_t rfl rfl) (v := .bool (decide (((s.drop 138).take 4) = (((List.replicate 142 (0 : UInt8)).drop 138).take 4)))) (fun hg => by simp only [gv_t hg]; exact rp_eql_leafs rfl 6 (by decide) (by kernel_rfl) (by kernel_rfl) (ks := (List.replicate 4 (.int .u8))) (by kernel_rfl) (xs := enc ((s.drop 138).take 4)) (ys := enc (((List.replicate 142 (0 : UInt8)).drop 138).take 4)) rfl rfl (formed_enc Tryz.underlying39 rfl sz39 (by first | omega | simp [-List.reduceReplicate] <;> omega | simp [*, -List.reduceReplicate] <;> omega)) (formed_enc Tryz.underlying39 rfl sz39 (by first | omega | simp [-List.reduceReplicate] <;> omega | simp [*, -List.reduceReplicate] <;> omega)) (fits_enc (by first | omega | simp [-List.reduceReplicate] <;> omega | simp [*, -List.reduceReplicate] <;> omega)) (fits_enc (by first | omega | simp [-List.reduceReplicate] <;> omega | simp [*, -List.reduceReplicate] <;> omega)) (r := (decide (((s.drop 138).take 4) = (((List.replicate 142 (0 : UInt8)).drop 138).take 4)))) (by exact enc_iff _ _)) ?_; simp only [N]
    refine wr (rp_pickA rfl (p := (decide (((s.drop 42).take 96) = (((List.replicate 142 (0 : UInt8)).drop 42).take 96)))) (q := (decide (((s.drop 138).take 4) = (((List.replicate 142 (0 : UInt8)).drop 138).take 4)))) rfl rfl rfl) ?_; simp only [N]
    refine wasg (.bool ((decide (((s.drop 42).take 96) = (((List.replicate 142 (0 : UInt8)).drop 42).take 96))) && (decide (((s.drop 138).take 4) = (((List.replicate 142 (0 : UInt8)).drop 138).take 4))))) ?_; simp only [N]
    refine wpList_nil ?_
    refine wp_ret ?_
    try simp only [Exit.inBlock, Exit.then, cutP]
    refine bodyPost_ret (results1 rfl (rv_tmp rfl)) rfl ?_
    have hF : (aRightF p s) = ((decide (((s.drop 42).take 96) = (((List.replicate 142 (0 : UInt8)).drop 42).take 96))) && (decide (((s.drop 138).take 4) = (((List.replicate 142 (0 : UInt8)).drop 138).take 4)))) := hFb2
    rw [hF]
    exact ⟨rfl, H.ext⟩

def startF (p : Prog) : (List UInt8) × Int :=
  bif ((rightF p) != (0 : Int)) then ((List.replicate 142 (0 : UInt8)), (2 : Int)) else (((List.replicate 142 (0 : UInt8)).take 36 ++ (p.init.l.take 6) ++ (List.replicate 142 (0 : UInt8)).drop (36 + (p.init.l.take 6).length)), (0 : Int))

@[simp] theorem startF_len0 (p : Prog) : ((startF p).1).length = 142 := by
  simp only [startF, Bool.cond_eq_ite]; (repeat' split) <;> first | assumption | omega | (simp [-List.reduceReplicate]; done) | (simp [-List.reduceReplicate]; omega) | (simp [*, -List.reduceReplicate]; done) | (simp [*, -List.reduceReplicate]; omega)

theorem startF_spec (p : Prog) (w : World) (hp : (IsProg p) w) (hg_ : Glob w) :
    Calls Tryz.prog 18 #[.agg p.cells.toArray] w fun e w' => e = .returned (.tuple #[.agg (enc (startF p).1).toArray, iv (startF p).2]) ∧ Ext w w' := by
 have H := Own.start_ro w [IsProg p, Glob] (List.forall_mem_cons.2 ⟨fun w' hw => hp.keep hw, List.forall_mem_cons.2 ⟨fun w' hw => hg_.keep hw, fun _ h => by cases h⟩⟩)
 have hcp1 := hp.locs.2.2
 have hcp2 := hp.init.2.2
 have hcp3 := hp.threads.2.2
 go_enter Tryz.func18, Tryz.ntmps18
 refine wsr ?_
 refine wl_box H rfl rfl (v := .agg (p.cells).toArray) rfl ?_
 clear H; intro b1 w1 hnb1 H; dsimp only [Value.cells] at H
 simp only [N]
 refine wl_alloc H rfl rfl zv41 ?_
 clear H; intro b2 w2 hnb2 H; dsimp only [Value.cells] at H
 simp only [N]
 simp only [enc_replicate] at H
 refine wasg (iv (0 : Int)) ?_; simp only [N]
 refine wpList_nil ?_
 refine wp_seq ?_; refine wsr ?_
 refine wr (rp_loadN H 1 rfl rfl rfl Tryz.underlying29 rfl sz29 (Nat.le_of_ble_eq_true rfl) (cs' := p.cells) rfl) ?_; simp only [N]
 refine wl_callE H rfl (rc_go Tryz.func11 (by kernel_rfl) rfl) (rightF_spec p _ (H.ro_at 0 rfl) (H.ro_at 1 rfl)) ?_
 clear H; intro w3 H
 simp only [N]
 refine wr (rp_int_neq rfl (rightF p) (0 : Int) rfl rfl) ?_; simp only [N]
 refine wpList_nil ?_
 refine wp_cond_split rfl (fun hc1 => ?_) (fun hc1 => ?_)
 · --T 1
  have hc1N1 : (rightF p) ≠ (0 : Int) := (by simpa using hc1)
  refine wsr ?_
  refine wr (rp_build rfl (vs := []) rfl (cs := (enc (List.replicate 142 (0 : UInt8))).toArray) (by kernel_rfl)) ?_; simp only [N]
  refine wl_storeA H 0 rfl rfl rfl rfl (List.replicate 142 (0 : UInt8)) rfl sz41 ?_
  clear H; intro w4 H; simp only [M] at H
  simp only [N]
  refine wasg (iv (2 : Int)) ?_; simp only [N]
  refine wpList_nil ?_
  refine wp_ret ?_
  try simp only [Exit.inBlock, Exit.then, cutP]
  refine bodyPost_ret (results2 rfl (rv_aggA H 0 rfl rfl Tryz.underlying41 rfl sz41) (rv_tmp rfl)) rfl ?_
  have hF : (startF p) = ((List.replicate 142 (0 : UInt8)), (2 : Int)) := bt hc1
  rw [hF]
  exact ⟨rfl, H.ext⟩
 · --F 1
  have hc1N2 : (rightF p) = (0 : Int) := (by simpa using hc1)
  refine wp_skip ?_
  refine wsr ?_
  refine wl_alloc H rfl rfl zv41 ?_
  clear H; intro b3 w5 hnb3 H; dsimp only [Value.cells] at H
  simp only [N]
  simp only [enc_replicate] at H
  refine wpList_nil ?_
  refine wp_seq ?_; refine wp_region_mix 4 H (by kernel_rfl) ?_
  refine wxl_tk 0 rfl (xy_run rfl (fun w H => rp_fieldAddr rfl Tryz.underlying41 rfl 36 rfl sz34 rfl 36 rfl)) ?_; simp only [N]
  refine wxl_tk 1 rfl (xy_run rfl (fun w H => rp_slice_arr rfl Tryz.underlying34 sz5 rfl)) ?_; simp only [N]
  refine wxl_tk 2 rfl (xy_run rfl (fun w H => rp_fieldAddr rfl Tryz.underlying29 rfl 2 rfl sz23 rfl 2 rfl)) ?_; simp only [N]
  refine wxl_tk 3 rfl (xy_run rfl (fun w H => rp_load1 H 2 rfl rfl rfl Tryz.underlying23 rfl (v := p.init.val) rfl)) ?_; simp only [N]
  refine wpX_tail (n := 0) _ rfl rfl (by kernel_rfl) ?_
  clear H; intro w6 H; simp only [List.cons_append, List.nil_append] at H
  refine wl_copyB H 0 rfl Tryz.underlying23 sz5 rfl rfl (s := p.init) (IsProg.init (H.ro_at 0 rfl)) rfl (by first | omega | simp [-List.reduceReplicate] <;> omega | simp [*, -List.reduceReplicate] <;> omega) ?_
  clear H; intro w7 H; simp only [M] at H
  simp only [N]
  refine wnr ?_
  refine wr (rp_loadWA H 0 rfl rfl rfl Tryz.underlying41 rfl sz41 rfl) ?_; simp only [N]
  refine wl_storeA H 1 rfl rfl rfl rfl ((List.replicate 142 (0 : UInt8)).take 36 ++ (p.init.l.take 6) ++ (List.replicate 142 (0 : UInt8)).drop (36 + (p.init.l.take 6).length)) rfl sz41 ?_
  clear H; intro w8 H; simp only [M] at H
  simp only [N]
  refine wasg (iv (0 : Int)) ?_; simp only [N]
  refine wpList_nil ?_
  refine wp_ret ?_
  try simp only [Exit.inBlock, Exit.then, cutP]
  refine bodyPost_ret (results2 rfl (rv_aggA H 1 rfl rfl Tryz.underlying41 rfl sz41) (rv_tmp rfl)) rfl ?_
  have hF : (startF p) = (((List.replicate 142 (0 : UInt8)).take 36 ++ (p.init.l.take 6) ++ (List.replicate 142 (0 : UInt8)).drop (36 + (p.init.l.take 6).length)), (0 : Int)) := bf hc1
  rw [hF]
  exact ⟨rfl, H.ext⟩

def finalF_a (s : List UInt8) (ra : (Nat × (List UInt8)) → (List UInt8)) : (Nat × (List UInt8)) → (List UInt8) := fun s_ => match s_ with | (a11, ab3) => ra ((a11 + 1), (ab3.take (a11 * 8) ++ ((((((s.drop 0).take 36).drop (a11 * 9)).take 9).drop 1).take 8) ++ ab3.drop (a11 * 8 + ((((((s.drop 0).take 36).drop (a11 * 9)).take 9).drop 1).take 8).length)))
def finalF_ak : (Nat × (List UInt8)) → (List UInt8) := fun s_ => match s_ with | (a11, ab3) => ab3
def finalF (s : List UInt8) : (List UInt8) :=
  loopN (finalF_a s) finalF_ak (4 - 0) (0, (List.replicate 32 (0 : UInt8) ++ (s.drop 36).take 6))

@[simp] theorem finalF_len (s : List UInt8) (hs : s.length = 142) : (finalF s).length = 38 := by
  unfold finalF
  refine loopN_inv (fun n (s : Nat × List UInt8) => s.1 + n = 4 ∧ s.2.length = 38) (fun r : List UInt8 => r.length = 38) ?_ ?_ _ _ (by simp [-List.reduceReplicate]; omega)
  · rintro n r ⟨a, l⟩ h hr; simp at h; exact hr _ (by simp; omega)
  · rintro ⟨a, l⟩ h; simp at h; simp [finalF_ak]; omega

theorem finalF_spec (s : List UInt8) (hs : s.length = 142) (w : World) :
    Calls Tryz.prog 20 #[.agg (enc s).toArray] w fun e w' => e = .returned (.agg (enc (finalF s)).toArray) ∧ Ext w w' := by
 have H := Own.start w
 go_enter Tryz.func20, Tryz.ntmps20
 refine wsr ?_
 refine wl_box H rfl rfl (v := .agg (enc s).toArray) rfl ?_
 clear H; intro b1 w1 hnb1 H; dsimp only [Value.cells] at H
 simp only [N]
 refine wl_alloc H rfl rfl zv64 ?_
 clear H; intro b2 w2 hnb2 H; dsimp only [Value.cells] at H
 simp only [N]
 simp only [enc_replicate] at H
 refine wnr ?_
 refine wr (rp_fieldAddr rfl Tryz.underlying41 rfl 36 rfl sz34 rfl 36 rfl) ?_; simp only [N]
 refine wr (rp_loadNA H 1 rfl rfl rfl Tryz.underlying34 rfl sz34 36) ?_; simp only [N]
 refine wr (rp_build rfl (vs := [(1, .agg (enc ((s.drop 36).take 6)).toArray)]) rfl (cs := (enc (List.replicate 32 (0 : UInt8) ++ (s.drop 36).take 6)).toArray) (by obtain ⟨a, b, c, d, e, f, hl⟩ := len6 (l := (s.drop 36).take 6) (by simp; omega); rw [hl]; kernel_rfl)) ?_; simp only [N]
 refine wl_alloc H rfl rfl zv64 ?_
 clear H; intro b3 w3 hnb3 H; dsimp only [Value.cells] at H
 simp only [N]
 simp only [enc_replicate] at H
 refine wl_storeA H 0 rfl rfl rfl rfl (List.replicate 32 (0 : UInt8) ++ (s.drop 36).take 6) rfl sz64 ?_
 clear H; intro w4 H; simp only [M] at H
 simp only [N]
 refine wpList_nil ?_
 refine wp_seq ?_; refine wsr ?_
 refine wr (rp_fieldAddr rfl Tryz.underlying41 rfl 0 rfl sz33 rfl 0 rfl) ?_; simp only [N]
 refine wr (rp_loadNA H 2 rfl rfl rfl Tryz.underlying33 rfl sz33 0) ?_; simp only [N]
 refine wmv (iv (0 : Int)) ?_; simp only [N]
 refine wpList_nil ?_
 refine wp_block ?_
 refine wp_loopX (fun m' a' w' => ∃ (a11 : Nat) (ab3 : List UInt8) (u4 u5 u12 u13 u14 u15 u16 u17 u18 u19 u20 : Value), a' = ⟨#[.agg (enc s).toArray, .pointer (some ⟨b1, 0, none⟩), .pointer (some ⟨b2, 0, none⟩), .pointer (some ⟨b3, 0, none⟩), u4, u5, .pointer (some ⟨b1, 36, none⟩), .agg (enc ((s.drop 36).take 6)).toArray, .agg (enc (List.replicate 32 (0 : UInt8) ++ (s.drop 36).take 6)).toArray, .pointer (some ⟨b1, 0, none⟩), .agg (enc ((s.drop 0).take 36)).toArray, iv (a11 : Int), u12, u13, u14, u15, u16, u17, u18, u19, u20, uU], []⟩ ∧ Own w [] [] [.blk b3 (.cells (enc ab3).toArray 64 (0, 0)), .blk b2 (.cells (enc (List.replicate 38 (0 : UInt8))).toArray 64 (0, 0)), .blk b1 (.cells (enc s).toArray 41 (0, 0))] w' ∧ (ab3.length = 38) ∧ (a11 ≤ 4) ∧ (finalF s) = loopN (finalF_a s) finalF_ak (4 - a11) (a11, ab3) ∧ m' = 4 - a11) _ ⟨0, (List.replicate 32 (0 : UInt8) ++ (s.drop 36).take 6), _, _, _, _, _, _, _, _, _, _, _, rfl, H, (by first | omega | simp [-List.reduceReplicate] <;> omega | simp [*, -List.reduceReplicate] <;> omega), (by omega), rfl, rfl⟩ ?_
 clear H
 rintro _ _ w5 ⟨a11, ab3, u4, u5, u12, u13, u14, u15, u16, u17, u18, u19, u20, rfl, H, hia0, hia1, hFa, rfl⟩
 refine wsr ?_
 refine wr (rp_int_lss rfl (a11 : Int) (4 : Int) rfl rfl) ?_; simp only [N]
 refine wpList_nil ?_
 refine wp_seq ?_; refine wp_cond_split rfl (fun hc1 => ?_) (fun hc1 => ?_)
 · --T 1
  have hc1N1 : (a11 : Int) < (4 : Int) := (by simpa using hc1)
  obtain ⟨ra, hra⟩ : ∃ r, r = loopN (finalF_a s) finalF_ak (4 - (a11 + 1)) := ⟨_, rfl⟩
  have hFa2 := hFa.trans (loopN_step (show a11 < 4 by omega))
  rw [← hra] at hFa2
  refine wp_skip ?_
  refine wp_seq ?_; refine wp_block ?_
  refine wsr ?_
  refine wmv (iv (a11 : Int)) ?_; simp only [N]
  refine wr (rp_index_encN rfl Tryz.underlying33 sz32 Tryz.underlying32 rfl rfl a11 rfl (by omega)) ?_; simp only [N]
  refine wl_alloc H rfl rfl zv32 ?_
  clear H; intro b4 w6 hnb4 H; dsimp only [Value.cells] at H
  simp only [N]
  replace H : Own w [] [] [.blk b4 (.cells (enc (List.replicate 9 (0 : UInt8))).toArray 32 (0, 0)), .blk b3 (.cells (enc ab3).toArray 64 (0, 0)), .blk b2 (.cells (enc (List.replicate 38 (0 : UInt8))).toArray 64 (0, 0)), .blk b1 (.cells (enc s).toArray 41 (0, 0))] _ := H
  refine wasg (iv (a11 : Int)) ?_; simp only [N]
  refine wl_storeA H 0 rfl rfl rfl rfl ((((s.drop 0).take 36).drop (a11 * 9)).take 9) rfl sz32 ?_
  clear H; intro w7 H; simp only [M] at H
  simp only [N]
  refine wpList_nil ?_
  refine wp_region_lit ?_; refine wmv (iv (a11 : Int)) ?_; simp only [N]
  refine wr (rp_fieldAddr rfl Tryz.underlying32 rfl 1 rfl sz30 rfl 1 rfl) ?_; simp only [N]
  refine wr (rp_loadNA H 0 rfl rfl rfl Tryz.underlying30 rfl sz30 1) ?_; simp only [N]
  refine wr (rp_fieldAddr rfl Tryz.underlying64 rfl 0 rfl sz62 rfl 0 rfl) ?_; simp only [N]
  refine wr (rp_indexAddr_arr rfl Tryz.underlying62 sz30 rfl a11 rfl (by omega) (a11 * 8) (by omega)) ?_; simp only [N]
  refine wl_storeNA H 1 rfl rfl rfl rfl ((((((s.drop 0).take 36).drop (a11 * 9)).take 9).drop 1).take 8) rfl sz30 (a11 * 8) rfl ?_
  clear H; intro w8 H; simp only [M] at H
  simp only [N]
  refine wpList_nil ?_
  refine wp_region_lit ?_; refine wr (rp_int_add rfl (a11 : Int) (1 : Int) rfl rfl (by omega)) ?_; simp only [N]
  refine wmv (iv ((a11 : Int) + (1 : Int))) ?_; simp only [N]
  refine wpList_nil ?_
  replace H := H.dropNew 0 rfl (foot_blk hnb4); simp only [m5, m6] at H
  show ∃ n', n' < _ ∧ _
  refine ⟨_, ?_, (a11 + 1), (ab3.take (a11 * 8) ++ ((((((s.drop 0).take 36).drop (a11 * 9)).take 9).drop 1).take 8) ++ ab3.drop (a11 * 8 + ((((((s.drop 0).take 36).drop (a11 * 9)).take 9).drop 1).take 8).length)), _, _, _, _, _, _, _, _, _, _, _, rfl, H, (by first | omega | simp [-List.reduceReplicate] <;> omega | simp [*, -List.reduceReplicate] <;> omega), (by omega), hFa2.trans (congrFun hra _), rfl⟩
  omega
 · --F 1
  have hc1N2 : (4 : Int) ≤ (a11 : Int) := (by simpa using hc1)
  have hFa2 := hFa.trans (loopN_end (show 4 ≤ a11 by omega))
  refine wp_exit ?_
  refine wsr ?_
  refine wr (rp_loadWA H 0 rfl rfl rfl Tryz.underlying64 rfl sz64 rfl) ?_; simp only [N]
  refine wl_storeA H 1 rfl rfl rfl rfl ab3 rfl sz64 ?_
  clear H; intro w9 H; simp only [M] at H
  simp only [N]
  refine wpList_nil ?_
  refine wp_ret ?_
  try simp only [Exit.inBlock, Exit.then, cutP]
  refine bodyPost_ret (results1 rfl (rv_aggA H 1 rfl rfl Tryz.underlying64 rfl sz64)) rfl ?_
  have hF : (finalF s) = ab3 := hFa2
  rw [hF]
  exact ⟨rfl, H.ext⟩

end Go.Proofs.YtimonjemjhecoaaGreatDoor
