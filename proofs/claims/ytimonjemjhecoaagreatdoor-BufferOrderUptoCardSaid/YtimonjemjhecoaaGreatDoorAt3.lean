/- Walks, printed by a program of this repository (wip/tool). -/
import Derived.Test.YtimonjemjhecoaaGreatDoorAt2
namespace Go.Proofs.YtimonjemjhecoaaGreatDoor
open Go.RowKit
open Go
attribute [local irreducible] wpList wpQuiet wpX Code.wp
set_option maxHeartbeats 1000000
set_option maxRecDepth 100000
set_option linter.unusedSimpArgs false
set_option linter.unusedVariables false

def pcOf (S : List UInt8) (k : Nat) : UInt8 := S.getD (k * 9) 0
def thOf (S : List UInt8) (k : Nat) : List UInt8 := (S.drop (k * 9)).take 9
def insAt (p : Prog) (k n : Nat) : Ins := (p.threads.l.getD k default).l.getD n default
def mayN (p : Prog) (S : List UInt8) (k : Nat) : Bool := decide (k < p.threads.l.length) && decide ((pcOf S k).toNat < (p.threads.l.getD k default).l.length)
def mayF (p : Prog) (S : List UInt8) (t : Int) : Bool := decide (0 ≤ t) && mayN p S t.toNat
theorem thOf_length {S : List UInt8} (h : S.length = 142) {k : Nat} (hk : k < 4) : (thOf S k).length = 9 := by
  simp [thOf, h]; omega

theorem may_neg (p : Prog) (S : List UInt8) (t : Int) (ht : t < 0) (w : World) :
    Calls Tryz.prog 43 #[.agg p.cells.toArray, .agg (enc S).toArray, iv t] w fun e w' => e = .returned (.bool false) ∧ Ext w w' := by
 have H := Own.start w
 go_enter Tryz.func43, Tryz.ntmps43
 refine wsr ?_
 refine wl_box H rfl rfl (v := .agg (p.cells).toArray) rfl ?_
 clear H; intro b1 w1 hnb1 H; dsimp only [Value.cells] at H
 simp only [N]
 refine wl_box H rfl rfl (v := .agg (enc S).toArray) rfl ?_
 clear H; intro b2 w2 hnb2 H; dsimp only [Value.cells] at H
 simp only [N]
 refine wasg (.bool false) ?_; simp only [N]
 refine wpList_nil ?_
 refine wp_seq ?_; refine wp_region_own H (by kernel_rfl) (by kernel_rfl) ?_
 refine wq_run rfl (fun w H => rp_move rfl (v := iv t) rfl) ?_; simp only [N]
 refine wq_run rfl (fun w H => rp_int_geq rfl t (0 : Int) rfl rfl) ?_; simp only [N]
 refine wq_run rfl (fun w H => rp_move rfl (v := .bool (decide ((0 : Int) ≤ t))) rfl) ?_; simp only [N]
 cases hg1 : (decide ((0 : Int) ≤ t))
 · --false
  have hg1N : t < (0 : Int) := by simpa using hg1
  refine wq_skip (unwanted rfl (b := false) rfl (by decide)) ?_; simp only [N]
  refine wq_skip (unwanted rfl (b := false) rfl (by decide)) ?_; simp only [N]
  refine wq_skip (unwanted rfl (b := false) rfl (by decide)) ?_; simp only [N]
  refine wq_skip (unwanted rfl (b := false) rfl (by decide)) ?_; simp only [N]
  refine wq_skip (unwanted rfl (b := false) rfl (by decide)) ?_; simp only [N]
  refine wq_run rfl (fun w H => rp_pickF rfl rfl (v := .bool false) rfl) ?_; simp only [N]
  refine wq_run rfl (fun w H => rp_move rfl (v := .bool false) rfl) ?_; simp only [N]
  refine wq_skip (unwanted rfl (b := false) rfl (by decide)) ?_; simp only [N]
  refine wq_skip (unwanted rfl (b := false) rfl (by decide)) ?_; simp only [N]
  refine wq_skip (unwanted rfl (b := false) rfl (by decide)) ?_; simp only [N]
  refine wq_skip (unwanted rfl (b := false) rfl (by decide)) ?_; simp only [N]
  refine wq_skip (unwanted rfl (b := false) rfl (by decide)) ?_; simp only [N]
  refine wq_skip (unwanted rfl (b := false) rfl (by decide)) ?_; simp only [N]
  refine wq_skip (unwanted rfl (b := false) rfl (by decide)) ?_; simp only [N]
  refine wq_skip (unwanted rfl (b := false) rfl (by decide)) ?_; simp only [N]
  refine wq_skip (unwanted rfl (b := false) rfl (by decide)) ?_; simp only [N]
  refine wq_skip (unwanted rfl (b := false) rfl (by decide)) ?_; simp only [N]
  refine wq_skip (unwanted rfl (b := false) rfl (by decide)) ?_; simp only [N]
  refine wq_skip (unwanted rfl (b := false) rfl (by decide)) ?_; simp only [N]
  refine wq_skip (unwanted rfl (b := false) rfl (by decide)) ?_; simp only [N]
  refine wq_run rfl (fun w H => rp_pickF rfl rfl (v := .bool false) rfl) ?_; simp only [N]
  refine wq_run rfl (fun w H => rp_assign rfl (v := .bool false) rfl) ?_; simp only [N]
  refine wq_nil ?_
  clear H; intro w3 H
  refine wp_ret ?_
  try simp only [Exit.inBlock, Exit.then]
  refine bodyPost_ret (results1 rfl (rv_tmp rfl)) rfl ?_
  exact ⟨rfl, H.ext⟩
 · --true
  have hg1N : (0 : Int) ≤ t := by simpa using hg1
  exfalso; have := of_decide_eq_true hg1; omega

theorem may_nat (p : Prog) (S : List UInt8) (k : Nat) (hS : S.length = 142) (hl : p.threads.l.length ≤ 4) (w : World) (hp : IsProg p w) :
    Calls Tryz.prog 43 #[.agg p.cells.toArray, .agg (enc S).toArray, iv (k : Int)] w fun e w' => e = .returned (.bool (mayN p S k)) ∧ Ext w w' := by
 have H := Own.prog hp
 go_enter Tryz.func43, Tryz.ntmps43
 refine wsr ?_
 refine wl_box H rfl rfl (v := .agg (p.cells).toArray) rfl ?_
 clear H; intro b1 w1 hnb1 H; dsimp only [Value.cells] at H
 simp only [N]
 refine wl_box H rfl rfl (v := .agg (enc S).toArray) rfl ?_
 clear H; intro b2 w2 hnb2 H; dsimp only [Value.cells] at H
 simp only [N]
 refine wasg (.bool false) ?_; simp only [N]
 refine wpList_nil ?_
 refine wp_seq ?_; refine wp_region_own H (by kernel_rfl) (by kernel_rfl) ?_
 refine wq_run rfl (fun w H => rp_move rfl (v := iv (k : Int)) rfl) ?_; simp only [N]
 refine wq_run rfl (fun w H => rp_int_geq rfl (k : Int) (0 : Int) rfl rfl) ?_; simp only [N]
 refine wq_run rfl (fun w H => rp_move rfl (v := .bool (decide ((0 : Int) ≤ (k : Int)))) rfl) ?_; simp only [N]
 cases hg1 : (decide ((0 : Int) ≤ (k : Int)))
 · --false
  exfalso; simp at hg1
 · --true
  have hg1N : (0 : Int) ≤ (k : Int) := by simp
  refine wq_run rfl (fun w H => rp_move rfl (v := iv (k : Int)) rfl) ?_; simp only [N]
  refine wq_run rfl (fun w H => rp_fieldAddr rfl Tryz.underlying29 rfl 3 rfl sz24 rfl 3 rfl) ?_; simp only [N]
  refine wq_run rfl (fun w H => rp_load1 H 1 rfl rfl rfl Tryz.underlying24 rfl (v := p.threads.val) rfl) ?_; simp only [N]
  refine wq_run rfl (fun w H => rp_len_sl (s := p.threads) Tryz.underlying24 rfl) ?_; simp only [N]
  refine wq_run rfl (fun w H => rp_int_lss rfl (k : Int) (p.threads.l.length : Int) rfl rfl) ?_; simp only [N]
  refine wq_run rfl (fun w H => rp_pickT rfl rfl (u := .bool (decide ((k : Int) < (p.threads.l.length : Int)))) rfl) ?_; simp only [N]
  refine wq_run rfl (fun w H => rp_move rfl (v := .bool (decide ((k : Int) < (p.threads.l.length : Int)))) rfl) ?_; simp only [N]
  cases hg2 : (decide ((k : Int) < (p.threads.l.length : Int)))
  · --false
   have hg2N : (p.threads.l.length : Int) ≤ (k : Int) := by simpa using hg2
   refine wq_skip (unwanted rfl (b := false) rfl (by decide)) ?_; simp only [N]
   refine wq_skip (unwanted rfl (b := false) rfl (by decide)) ?_; simp only [N]
   refine wq_skip (unwanted rfl (b := false) rfl (by decide)) ?_; simp only [N]
   refine wq_skip (unwanted rfl (b := false) rfl (by decide)) ?_; simp only [N]
   refine wq_skip (unwanted rfl (b := false) rfl (by decide)) ?_; simp only [N]
   refine wq_skip (unwanted rfl (b := false) rfl (by decide)) ?_; simp only [N]
   refine wq_skip (unwanted rfl (b := false) rfl (by decide)) ?_; simp only [N]
   refine wq_skip (unwanted rfl (b := false) rfl (by decide)) ?_; simp only [N]
   refine wq_skip (unwanted rfl (b := false) rfl (by decide)) ?_; simp only [N]
   refine wq_skip (unwanted rfl (b := false) rfl (by decide)) ?_; simp only [N]
   refine wq_skip (unwanted rfl (b := false) rfl (by decide)) ?_; simp only [N]
   refine wq_skip (unwanted rfl (b := false) rfl (by decide)) ?_; simp only [N]
   refine wq_skip (unwanted rfl (b := false) rfl (by decide)) ?_; simp only [N]
   refine wq_run rfl (fun w H => rp_pickF rfl rfl (v := .bool false) rfl) ?_; simp only [N]
   refine wq_run rfl (fun w H => rp_assign rfl (v := .bool false) rfl) ?_; simp only [N]
   refine wq_nil ?_
   clear H; intro w3 H
   refine wp_ret ?_
   try simp only [Exit.inBlock, Exit.then]
   refine bodyPost_ret (results1 rfl (rv_tmp rfl)) rfl ?_
   exact ⟨by simp_all [mayN, pcOf] <;> omega, H.ext⟩
  · --true
   have hg2N : (k : Int) < (p.threads.l.length : Int) := by simpa using hg2
   refine wq_run rfl (fun w H => rp_move rfl (v := iv (k : Int)) rfl) ?_; simp only [N]
   refine wq_run rfl (fun w H => rp_fieldAddr rfl Tryz.underlying41 rfl 0 rfl sz33 rfl 0 rfl) ?_; simp only [N]
   refine wq_run rfl (fun w H => rp_indexAddr_arr rfl Tryz.underlying33 sz32 rfl k rfl (by omega) (k * 9) (by omega)) ?_; simp only [N]
   refine wq_run rfl (fun w H => rp_fieldAddr rfl Tryz.underlying32 rfl 0 rfl sz5 rfl (k * 9) (by omega)) ?_; simp only [N]
   refine wq_run rfl (fun w H => rp_load1e H 0 rfl rfl rfl Tryz.underlying5 rfl (k * 9) rfl (by first | omega | simp [LN, enc_length, putAt_length, localF_length, thOf_length] <;> omega)) ?_; simp only [N]
   refine wq_run rfl (fun w H => rp_u8_to_int rfl Tryz.underlying5 Tryz.underlying3 (S.getD (k * 9) 0) rfl) ?_; simp only [N]
   refine wq_run rfl (fun w H => rp_fieldAddr rfl Tryz.underlying29 rfl 3 rfl sz24 rfl 3 rfl) ?_; simp only [N]
   refine wq_run rfl (fun w H => rp_load1 H 1 rfl rfl rfl Tryz.underlying24 rfl (v := p.threads.val) rfl) ?_; simp only [N]
   refine wq_run rfl (fun w H => rp_move rfl (v := iv (k : Int)) rfl) ?_; simp only [N]
   refine wq_run rfl (fun w H => rp_indexAddr_sl (IsProg.threads (H.ro_at 0 rfl)) rfl Tryz.underlying24 sz59 rfl k rfl (by omega)) ?_; simp only [N]
   refine wq_run rfl (fun w H => rp_load1_sl (IsProg.threads (H.ro_at 0 rfl)) k (by omega) rfl Tryz.underlying59 rfl 0 rfl (by omega) (v := (p.threads.l.getD k default).val) rfl) ?_; simp only [N]
   refine wq_run rfl (fun w H => rp_len_sl (s := (p.threads.l.getD k default)) Tryz.underlying59 rfl) ?_; simp only [N]
   refine wq_run rfl (fun w H => rp_int_lss rfl ((S.getD (k * 9) 0).toNat : Int) (((p.threads.l.getD k default).l.length : Nat) : Int) rfl rfl) ?_; simp only [N]
   refine wq_run rfl (fun w H => rp_pickT rfl rfl (u := .bool (decide (((S.getD (k * 9) 0).toNat : Int) < (((p.threads.l.getD k default).l.length : Nat) : Int)))) rfl) ?_; simp only [N]
   refine wq_run rfl (fun w H => rp_assign rfl (v := .bool (decide (((S.getD (k * 9) 0).toNat : Int) < (((p.threads.l.getD k default).l.length : Nat) : Int)))) rfl) ?_; simp only [N]
   refine wq_nil ?_
   clear H; intro w4 H
   refine wp_ret ?_
   try simp only [Exit.inBlock, Exit.then]
   refine bodyPost_ret (results1 rfl (rv_tmp rfl)) rfl ?_
   exact ⟨by simp_all [mayN, pcOf] <;> omega, H.ext⟩

theorem may_spec (p : Prog) (S : List UInt8) (t : Int) (hS : S.length = 142) (hl : p.threads.l.length ≤ 4) (w : World) (hp : IsProg p w) :
    Calls Tryz.prog 43 #[.agg p.cells.toArray, .agg (enc S).toArray, iv t] w fun e w' => e = .returned (.bool (mayF p S t)) ∧ Ext w w' := by
  by_cases h : t < 0
  · refine (may_neg p S t h w).mono fun e w' he => ⟨?_, he.2⟩
    rw [he.1, mayF, decide_eq_false (by omega)]; rfl
  · obtain ⟨k, rfl⟩ := Int.eq_ofNat_of_zero_le (Int.not_lt.1 h)
    refine (may_nat p S k hS hl w hp).mono fun e w' he => ⟨?_, he.2⟩
    rw [he.1, mayF, decide_eq_true (by omega)]; rfl

def goesF (p : Prog) (S : List UInt8) (k : Nat) : List UInt8 :=
  let i := insAt p k (pcOf S k).toNat
  if (localF i (thOf S k)).2 then S.take (k * 9) ++ (localF i (thOf S k)).1 ++ S.drop (k * 9 + (localF i (thOf S k)).1.length)
  else
    let had := S.getD (36 + i.loc.toNat) 0
    let S1 := S.set (36 + i.loc.toNat) (turnF i ((S.drop (k * 9 + 1)).take 8) had)
    let S2 := if i.op != 2 then putAt S1 (k * 9) i.dst had else S1
    S2.set (k * 9) (S2.getD (k * 9) 0 + 1)
structure InsOk (i : Ins) : Prop where
  op : i.op = 3 ∨ i.op = 7 ∨ i.op = 8 ∨ memOp i.op
  loc : i.loc.toNat < 6
theorem local_mem {i : Ins} (h : InsOk i) {t : List UInt8} (hl : (localF i t).2 = false) : memOp i.op := by
  rcases h.op with h | h | h | h
  · simp [localF, h] at hl
  · simp [localF, h] at hl
  · simp [localF, h] at hl
  · exact h

theorem goes_spec (p : Prog) (S : List UInt8) (k : Nat) (hS : S.length = 142) (hl : p.threads.l.length ≤ 4) (hk : k < p.threads.l.length) (hpc : (pcOf S k).toNat < (p.threads.l.getD k default).l.length)
    (hok : InsOk (insAt p k (pcOf S k).toNat)) (w : World) (hp : IsProg p w) :
    Calls Tryz.prog 44 #[.agg p.cells.toArray, .agg (enc S).toArray, iv (k : Int)] w fun e w' => e = .returned (.agg (enc (goesF p S k)).toArray) ∧ Ext w w' := by
 have H := Own.prog hp
 unfold pcOf insAt at hok
 unfold pcOf at hpc
 have hloc := hok.loc
 go_enter Tryz.func44, Tryz.ntmps44
 refine wsr ?_
 refine wl_box H rfl rfl (v := .agg (p.cells).toArray) rfl ?_
 clear H; intro b1 w1 hnb1 H; dsimp only [Value.cells] at H
 simp only [N]
 refine wl_box H rfl rfl (v := .agg (enc S).toArray) rfl ?_
 clear H; intro b2 w2 hnb2 H; dsimp only [Value.cells] at H
 simp only [N]
 refine wl_alloc H rfl rfl zv41 ?_
 clear H; intro b3 w3 hnb3 H; dsimp only [Value.cells] at H
 simp only [N]
 refine wpList_nil ?_
 refine wp_seq ?_; refine wp_region_mix 14 H (by kernel_rfl) ?_
 refine wxl_tk 0 rfl (xy_run rfl (fun w H => rp_fieldAddr rfl Tryz.underlying29 rfl 3 rfl sz24 rfl 3 rfl)) ?_
 simp only [N, M, Value.cells]
 refine wxl_tk 1 rfl (xy_run rfl (fun w H => rp_load1 H 2 rfl rfl rfl Tryz.underlying24 rfl (v := p.threads.val) rfl)) ?_
 simp only [N, M, Value.cells]
 refine wxl_tk 2 rfl (xy_run rfl (fun w H => rp_move rfl (v := iv (k : Int)) rfl)) ?_
 simp only [N, M, Value.cells]
 refine wxl_tk 3 rfl (xy_run rfl (fun w H => rp_indexAddr_sl (IsProg.threads (H.ro_at 0 rfl)) rfl Tryz.underlying24 sz59 rfl k rfl (by omega))) ?_
 simp only [N, M, Value.cells]
 refine wxl_tk 4 rfl (xy_run rfl (fun w H => rp_load1_sl (IsProg.threads (H.ro_at 0 rfl)) k (by omega) rfl Tryz.underlying59 rfl 0 rfl (by omega) (v := (p.threads.l.getD k default).val) rfl)) ?_
 simp only [N, M, Value.cells]
 refine wxl_tk 5 rfl (xy_run rfl (fun w H => rp_move rfl (v := iv (k : Int)) rfl)) ?_
 simp only [N, M, Value.cells]
 refine wxl_tk 6 rfl (xy_run rfl (fun w H => rp_fieldAddr rfl Tryz.underlying41 rfl 0 rfl sz33 rfl 0 rfl)) ?_
 simp only [N, M, Value.cells]
 refine wxl_tk 7 rfl (xy_run rfl (fun w H => rp_indexAddr_arr rfl Tryz.underlying33 sz32 rfl k rfl (by omega) (k * 9) (by omega))) ?_
 simp only [N, M, Value.cells]
 refine wxl_tk 8 rfl (xy_run rfl (fun w H => rp_fieldAddr rfl Tryz.underlying32 rfl 0 rfl sz5 rfl (k * 9) (by omega))) ?_
 simp only [N, M, Value.cells]
 refine wxl_tk 9 rfl (xy_run rfl (fun w H => rp_load1e H 1 rfl rfl rfl Tryz.underlying5 rfl (k * 9) rfl (by first | omega | simp [LN, enc_length, putAt_length, localF_length, thOf_length] <;> omega))) ?_
 simp only [N, M, Value.cells]
 refine wxl_tk 10 rfl (xy_run rfl (fun w H => rp_indexAddr_sl (IsProg.ins_at (H.ro_at 0 rfl) (t := k) (by omega)) rfl Tryz.underlying59 sz58 rfl (S.getD (k * 9) 0).toNat rfl (by omega))) ?_
 simp only [N, M, Value.cells]
 refine wxl_tk 11 rfl (xy_run rfl (fun w H => rp_loadN_sl (IsProg.ins_at (H.ro_at 0 rfl) (t := k) (by omega)) ((S.getD (k * 9) 0).toNat) (by omega) rfl Tryz.underlying58 rfl rfl sz58)) ?_
 simp only [N, M, Value.cells]
 refine wxl_alloc 12 rfl rfl (by kernel_rfl) rfl (xa_alloc rfl zv58) ?_
 intro b4
 simp only [N, M, Value.cells]
 refine wxl_store 13 0 rfl rfl (by kernel_rfl) rfl rfl (xs_whole rfl rfl (vs := (((p.threads.l.getD k default).l.getD ((S.getD (k * 9) 0).toNat) default).cells).toArray) rfl (Ins.cells_one _) (by first | exact sz58 | (rw [sz58]; congr 1; first | omega | simp [LN, enc_length, putAt_length, localF_length, thOf_length] <;> omega)) (by first | rfl | first | omega | simp [LN, enc_length, putAt_length, localF_length, thOf_length] <;> omega)) ?_
 simp only [N, M, Value.cells]
 refine wpX_done (by kernel_rfl) ?_ _
 clear H; intro w4 H; simp only [List.cons_append, List.nil_append] at H
 refine wp_seq ?_; refine wp_seq ?_; refine wp_region_mix 12 H (by kernel_rfl) ?_
 refine wxl_tk 0 rfl (xy_run rfl (fun w H => rp_loadN H 0 rfl rfl rfl Tryz.underlying58 rfl sz58 (Nat.le_of_ble_eq_true rfl) (cs' := ((p.threads.l.getD k default).l.getD ((S.getD (k * 9) 0).toNat) default).cells) rfl)) ?_
 simp only [N, M, Value.cells]
 refine wxl_tk 1 rfl (xy_run rfl (fun w H => rp_move rfl (v := iv (k : Int)) rfl)) ?_
 simp only [N, M, Value.cells]
 refine wxl_tk 2 rfl (xy_run rfl (fun w H => rp_fieldAddr rfl Tryz.underlying41 rfl 0 rfl sz33 rfl 0 rfl)) ?_
 simp only [N, M, Value.cells]
 refine wxl_tk 3 rfl (xy_run rfl (fun w H => rp_indexAddr_arr rfl Tryz.underlying33 sz32 rfl k rfl (by omega) (k * 9) (by omega))) ?_
 simp only [N, M, Value.cells]
 refine wxl_tk 4 rfl (xy_run rfl (fun w H => rp_loadNe H 2 rfl rfl rfl Tryz.underlying32 rfl sz32 (k * 9) (by omega) (by first | omega | simp [LN, enc_length, putAt_length, localF_length, thOf_length] <;> omega))) ?_
 simp only [N, M, Value.cells]
 refine wxl_tk 5 rfl (xy_call rfl (rc_go Tryz.func57 (by kernel_rfl) rfl) (fun w H => local_spec ((p.threads.l.getD k default).l.getD ((S.getD (k * 9) 0).toNat) default) ((S.drop (k * 9)).take 9) (by first | omega | simp [LN, enc_length, putAt_length, localF_length, thOf_length] <;> omega) _)) ?_
 simp only [N, M, Value.cells]
 refine wxl_tk 6 rfl (xy_run rfl (fun w H => rp_move rfl (v := .tuple #[.agg (enc (localF ((p.threads.l.getD k default).l.getD ((S.getD (k * 9) 0).toNat) default) ((S.drop (k * 9)).take 9)).1).toArray, .bool (localF ((p.threads.l.getD k default).l.getD ((S.getD (k * 9) 0).toNat) default) ((S.drop (k * 9)).take 9)).2]) rfl)) ?_
 simp only [N, M, Value.cells]
 refine wxl_tk 7 rfl (xy_run rfl (fun w H => rp_extract rfl rfl (v := .agg (enc (localF ((p.threads.l.getD k default).l.getD ((S.getD (k * 9) 0).toNat) default) ((S.drop (k * 9)).take 9)).1).toArray) rfl)) ?_
 simp only [N, M, Value.cells]
 refine wxl_tk 8 rfl (xy_run rfl (fun w H => rp_extract rfl rfl (v := .bool (localF ((p.threads.l.getD k default).l.getD ((S.getD (k * 9) 0).toNat) default) ((S.drop (k * 9)).take 9)).2) rfl)) ?_
 simp only [N, M, Value.cells]
 refine wxl_alloc 9 rfl rfl (by kernel_rfl) rfl (xa_alloc rfl zv32) ?_
 intro b5
 simp only [N, M, Value.cells]
 refine wxl_store 10 0 rfl rfl (by kernel_rfl) rfl rfl (xs_whole rfl rfl (vs := (enc (localF ((p.threads.l.getD k default).l.getD ((S.getD (k * 9) 0).toNat) default) ((S.drop (k * 9)).take 9)).1).toArray) rfl (fun v hv => enc_one v (by simpa using hv)) (by first | exact sz32 | (rw [sz32]; congr 1; first | omega | simp [LN, enc_length, putAt_length, localF_length, thOf_length] <;> omega)) (by first | rfl | first | omega | simp [LN, enc_length, putAt_length, localF_length, thOf_length] <;> omega)) ?_
 simp only [N, M, Value.cells]
 refine wxl_tk 11 rfl (xy_run rfl (fun w H => rp_assign rfl (v := .bool (localF ((p.threads.l.getD k default).l.getD ((S.getD (k * 9) 0).toNat) default) ((S.drop (k * 9)).take 9)).2) rfl)) ?_
 simp only [N, M, Value.cells]
 refine wpX_done (by kernel_rfl) ?_ _
 clear H; intro w5 H; simp only [List.cons_append, List.nil_append] at H
 refine wsr ?_
 refine wmv (.bool (localF ((p.threads.l.getD k default).l.getD ((S.getD (k * 9) 0).toNat) default) ((S.drop (k * 9)).take 9)).2) ?_; simp only [N]
 refine wpList_nil ?_
 refine wp_cond_split rfl (fun hc1 => ?_) (fun hc1 => ?_)
 · --T 1
  refine wsr ?_
  refine wmv (iv (k : Int)) ?_; simp only [N]
  refine wr (rp_loadWe H 0 rfl rfl rfl Tryz.underlying32 rfl (by first | exact sz32 | (rw [sz32]; congr 1; first | omega | simp [LN, enc_length, putAt_length, localF_length, thOf_length] <;> omega)) rfl) ?_; simp only [N]
  refine wr (rp_fieldAddr rfl Tryz.underlying41 rfl 0 rfl sz33 rfl 0 rfl) ?_; simp only [N]
  refine wr (rp_indexAddr_arr rfl Tryz.underlying33 sz32 rfl k rfl (by omega) (k * 9) (by omega)) ?_; simp only [N]
  refine wl_storeNe H 3 rfl rfl rfl rfl (localF ((p.threads.l.getD k default).l.getD ((S.getD (k * 9) 0).toNat) default) ((S.drop (k * 9)).take 9)).1 rfl (by first | exact sz32 | (rw [sz32]; congr 1; first | omega | simp [LN, enc_length, putAt_length, localF_length, thOf_length] <;> omega)) (k * 9) rfl (by first | omega | simp [LN, enc_length, putAt_length, localF_length, thOf_length] <;> omega) ?_
  clear H; intro w6 H; simp only [M] at H
  simp only [N]
  refine wnr ?_
  refine wr (rp_loadWe H 3 rfl rfl rfl Tryz.underlying41 rfl (by first | exact sz41 | (rw [sz41]; congr 1; first | omega | simp [LN, enc_length, putAt_length, localF_length, thOf_length] <;> omega)) rfl) ?_; simp only [N]
  refine wl_storeW H 2 rfl rfl rfl rfl (vs := (enc (S.take (k * 9) ++ (localF ((p.threads.l.getD k default).l.getD ((S.getD (k * 9) 0).toNat) default) ((S.drop (k * 9)).take 9)).1 ++ S.drop (k * 9 + (localF ((p.threads.l.getD k default).l.getD ((S.getD (k * 9) 0).toNat) default) ((S.drop (k * 9)).take 9)).1.length))).toArray) rfl (fun v hv => enc_one v (by simpa using hv)) (by first | (rw [sz41]; congr 1; done) | (rw [sz41]; congr 1; first | omega | simp [LN, enc_length, putAt_length, localF_length, thOf_length] <;> omega)) (by first | omega | simp [LN, enc_length, putAt_length, localF_length, thOf_length] <;> omega) ?_
  clear H; intro w7 H; simp only [M] at H
  simp only [N]
  refine wpList_nil ?_
  refine wp_ret ?_
  try simp only [Exit.inBlock, Exit.then]
  refine bodyPost_ret (results1 rfl (rv_agg H 2 rfl rfl Tryz.underlying41 rfl (by first | exact sz41 | (rw [sz41]; congr 1; first | omega | simp [LN, enc_length, putAt_length, localF_length, thOf_length] <;> omega)))) rfl ?_
  exact ⟨by simp only [goesF, pcOf, insAt, thOf, hc1, if_true], H.ext⟩
 · --F 1
  have hmem := local_mem hok (by simpa using hc1)
  refine wp_skip ?_
  refine wsr ?_
  refine wr (rp_fieldAddr rfl Tryz.underlying58 rfl 2 rfl sz5 rfl 2 rfl) ?_; simp only [N]
  refine wr (rp_load1 H 1 rfl rfl rfl Tryz.underlying5 rfl (v := bv ((p.threads.l.getD k default).l.getD ((S.getD (k * 9) 0).toNat) default).loc) rfl) ?_; simp only [N]
  refine wr (rp_fieldAddr rfl Tryz.underlying41 rfl 36 rfl sz34 rfl 36 rfl) ?_; simp only [N]
  refine wr (rp_indexAddr_arr rfl Tryz.underlying34 sz5 rfl (((p.threads.l.getD k default).l.getD ((S.getD (k * 9) 0).toNat) default).loc).toNat rfl (by omega) (36 + (((p.threads.l.getD k default).l.getD ((S.getD (k * 9) 0).toNat) default).loc).toNat) (by omega)) ?_; simp only [N]
  refine wr (rp_load1e H 3 rfl rfl rfl Tryz.underlying5 rfl (36 + (((p.threads.l.getD k default).l.getD ((S.getD (k * 9) 0).toNat) default).loc).toNat) rfl (by first | omega | simp [LN, enc_length, putAt_length, localF_length, thOf_length] <;> omega)) ?_; simp only [N]
  refine wasg (bv (S.getD (36 + (((p.threads.l.getD k default).l.getD ((S.getD (k * 9) 0).toNat) default).loc).toNat) 0)) ?_; simp only [N]
  refine wpList_nil ?_
  refine wp_seq ?_; refine wp_region_mix 12 H (by kernel_rfl) ?_
  refine wxl_tk 0 rfl (xy_run rfl (fun w H => rp_fieldAddr rfl Tryz.underlying58 rfl 2 rfl sz5 rfl 2 rfl)) ?_
  simp only [N, M, Value.cells]
  refine wxl_tk 1 rfl (xy_run rfl (fun w H => rp_load1 H 1 rfl rfl rfl Tryz.underlying5 rfl (v := bv ((p.threads.l.getD k default).l.getD ((S.getD (k * 9) 0).toNat) default).loc) rfl)) ?_
  simp only [N, M, Value.cells]
  refine wxl_tk 2 rfl (xy_run rfl (fun w H => rp_loadN H 1 rfl rfl rfl Tryz.underlying58 rfl sz58 (Nat.le_of_ble_eq_true rfl) (cs' := ((p.threads.l.getD k default).l.getD ((S.getD (k * 9) 0).toNat) default).cells) rfl)) ?_
  simp only [N, M, Value.cells]
  refine wxl_tk 3 rfl (xy_run rfl (fun w H => rp_move rfl (v := iv (k : Int)) rfl)) ?_
  simp only [N, M, Value.cells]
  refine wxl_tk 4 rfl (xy_run rfl (fun w H => rp_fieldAddr rfl Tryz.underlying41 rfl 0 rfl sz33 rfl 0 rfl)) ?_
  simp only [N, M, Value.cells]
  refine wxl_tk 5 rfl (xy_run rfl (fun w H => rp_indexAddr_arr rfl Tryz.underlying33 sz32 rfl k rfl (by omega) (k * 9) (by omega))) ?_
  simp only [N, M, Value.cells]
  refine wxl_tk 6 rfl (xy_run rfl (fun w H => rp_fieldAddr rfl Tryz.underlying32 rfl 1 rfl sz30 rfl (k * 9 + 1) (by omega))) ?_
  simp only [N, M, Value.cells]
  refine wxl_tk 7 rfl (xy_run rfl (fun w H => rp_loadNe H 3 rfl rfl rfl Tryz.underlying30 rfl sz30 (k * 9 + 1) (by omega) (by first | omega | simp [LN, enc_length, putAt_length, localF_length, thOf_length] <;> omega))) ?_
  simp only [N, M, Value.cells]
  refine wxl_tk 8 rfl (xy_run rfl (fun w H => rp_move rfl (v := bv (S.getD (36 + (((p.threads.l.getD k default).l.getD ((S.getD (k * 9) 0).toNat) default).loc).toNat) 0)) rfl)) ?_
  simp only [N, M, Value.cells]
  refine wxl_tk 9 rfl (xy_call rfl (rc_go Tryz.func58 (by kernel_rfl) rfl) (fun w H => turn_spec ((p.threads.l.getD k default).l.getD ((S.getD (k * 9) 0).toNat) default) ((S.drop (k * 9 + 1)).take 8) (S.getD (36 + (((p.threads.l.getD k default).l.getD ((S.getD (k * 9) 0).toNat) default).loc).toNat) 0) (by first | omega | simp [LN, enc_length, putAt_length, localF_length, thOf_length] <;> omega) hmem _)) ?_
  simp only [N, M, Value.cells]
  refine wxl_tk 10 rfl (xy_run rfl (fun w H => rp_fieldAddr rfl Tryz.underlying41 rfl 36 rfl sz34 rfl 36 rfl)) ?_
  simp only [N, M, Value.cells]
  refine wxl_tk 11 rfl (xy_run rfl (fun w H => rp_indexAddr_arr rfl Tryz.underlying34 sz5 rfl (((p.threads.l.getD k default).l.getD ((S.getD (k * 9) 0).toNat) default).loc).toNat rfl (by omega) (36 + (((p.threads.l.getD k default).l.getD ((S.getD (k * 9) 0).toNat) default).loc).toNat) (by omega))) ?_
  simp only [N, M, Value.cells]
  refine wpX_tail (n := 0) _ rfl rfl (by kernel_rfl) ?_
  clear H; intro w8 H; simp only [List.cons_append, List.nil_append] at H
  refine wl_store1e H 3 rfl rfl rfl rfl (turnF ((p.threads.l.getD k default).l.getD ((S.getD (k * 9) 0).toNat) default) ((S.drop (k * 9 + 1)).take 8) (S.getD (36 + (((p.threads.l.getD k default).l.getD ((S.getD (k * 9) 0).toNat) default).loc).toNat) 0)) rfl sz5 (36 + (((p.threads.l.getD k default).l.getD ((S.getD (k * 9) 0).toNat) default).loc).toNat) rfl (by first | omega | simp [LN, enc_length, putAt_length, localF_length, thOf_length] <;> omega) ?_
  clear H; intro w9 H; simp only [M] at H
  simp only [N]
  refine wpList_nil ?_
  refine wp_seq ?_; refine wsr ?_
  refine wr (rp_fieldAddr rfl Tryz.underlying58 rfl 0 rfl sz5 rfl 0 rfl) ?_; simp only [N]
  refine wr (rp_load1 H 1 rfl rfl rfl Tryz.underlying5 rfl (v := bv ((p.threads.l.getD k default).l.getD ((S.getD (k * 9) 0).toNat) default).op) rfl) ?_; simp only [N]
  refine wr (rp_u8_neq rfl ((p.threads.l.getD k default).l.getD ((S.getD (k * 9) 0).toNat) default).op (2 : UInt8) rfl rfl) ?_; simp only [N]
  refine wpList_nil ?_
  refine wp_cond_split rfl (fun hc2 => ?_) (fun hc2 => ?_)
  · --T 2
   have hc2N : (((p.threads.l.getD k default).l.getD ((S.getD (k * 9) 0).toNat) default).op).toNat ≠ 2 := u8_ne2 hc2
   refine wp_region_mix 6 H (by kernel_rfl) ?_
   refine wxl_tk 0 rfl (xy_run rfl (fun w H => rp_move rfl (v := iv (k : Int)) rfl)) ?_
   simp only [N, M, Value.cells]
   refine wxl_tk 1 rfl (xy_run rfl (fun w H => rp_fieldAddr rfl Tryz.underlying41 rfl 0 rfl sz33 rfl 0 rfl)) ?_
   simp only [N, M, Value.cells]
   refine wxl_tk 2 rfl (xy_run rfl (fun w H => rp_indexAddr_arr rfl Tryz.underlying33 sz32 rfl k rfl (by omega) (k * 9) (by omega))) ?_
   simp only [N, M, Value.cells]
   refine wxl_tk 3 rfl (xy_run rfl (fun w H => rp_fieldAddr rfl Tryz.underlying58 rfl 1 rfl sz5 rfl 1 rfl)) ?_
   simp only [N, M, Value.cells]
   refine wxl_tk 4 rfl (xy_run rfl (fun w H => rp_load1 H 1 rfl rfl rfl Tryz.underlying5 rfl (v := bv ((p.threads.l.getD k default).l.getD ((S.getD (k * 9) 0).toNat) default).dst) rfl)) ?_
   simp only [N, M, Value.cells]
   refine wxl_tk 5 rfl (xy_run rfl (fun w H => rp_move rfl (v := bv (S.getD (36 + (((p.threads.l.getD k default).l.getD ((S.getD (k * 9) 0).toNat) default).loc).toNat) 0)) rfl)) ?_
   simp only [N, M, Value.cells]
   refine wpX_tail (n := 0) _ rfl rfl (by kernel_rfl) ?_
   clear H; intro w10 H; simp only [List.cons_append, List.nil_append] at H
   refine wl_callP H 3 rfl (rc_go Tryz.func59 (by kernel_rfl) rfl) rfl (put_spec _ _ ((p.threads.l.getD k default).l.getD ((S.getD (k * 9) 0).toNat) default).dst (S.getD (36 + (((p.threads.l.getD k default).l.getD ((S.getD (k * 9) 0).toNat) default).loc).toNat) 0) (S.set (36 + (((p.threads.l.getD k default).l.getD ((S.getD (k * 9) 0).toNat) default).loc).toNat) (turnF ((p.threads.l.getD k default).l.getD ((S.getD (k * 9) 0).toNat) default) ((S.drop (k * 9 + 1)).take 8) (S.getD (36 + (((p.threads.l.getD k default).l.getD ((S.getD (k * 9) 0).toNat) default).loc).toNat) 0))) _ _ (by first | omega | simp [LN, enc_length, putAt_length, localF_length, thOf_length] <;> omega) (H.blk (i := 3) rfl)) ?_
   clear H; intro w11 H; simp only [M] at H
   simp only [N]
   refine wnr ?_
   refine wmv (iv (k : Int)) ?_; simp only [N]
   refine wr (rp_fieldAddr rfl Tryz.underlying41 rfl 0 rfl sz33 rfl 0 rfl) ?_; simp only [N]
   refine wr (rp_indexAddr_arr rfl Tryz.underlying33 sz32 rfl k rfl (by omega) (k * 9) (by omega)) ?_; simp only [N]
   refine wr (rp_fieldAddr rfl Tryz.underlying32 rfl 0 rfl sz5 rfl (k * 9) (by omega)) ?_; simp only [N]
   refine wr (rp_load1e H 3 rfl rfl rfl Tryz.underlying5 rfl (k * 9) rfl (by first | omega | simp [LN, enc_length, putAt_length, localF_length, thOf_length] <;> omega)) ?_; simp only [N]
   refine wr (rp_u8_add rfl ((putAt (S.set (36 + (((p.threads.l.getD k default).l.getD ((S.getD (k * 9) 0).toNat) default).loc).toNat) (turnF ((p.threads.l.getD k default).l.getD ((S.getD (k * 9) 0).toNat) default) ((S.drop (k * 9 + 1)).take 8) (S.getD (36 + (((p.threads.l.getD k default).l.getD ((S.getD (k * 9) 0).toNat) default).loc).toNat) 0))) (k * 9) ((p.threads.l.getD k default).l.getD ((S.getD (k * 9) 0).toNat) default).dst (S.getD (36 + (((p.threads.l.getD k default).l.getD ((S.getD (k * 9) 0).toNat) default).loc).toNat) 0)).getD (k * 9) 0) (1 : UInt8) rfl rfl) ?_; simp only [N]
   refine wr (rp_fieldAddr rfl Tryz.underlying41 rfl 0 rfl sz33 rfl 0 rfl) ?_; simp only [N]
   refine wr (rp_indexAddr_arr rfl Tryz.underlying33 sz32 rfl k rfl (by omega) (k * 9) (by omega)) ?_; simp only [N]
   refine wr (rp_fieldAddr rfl Tryz.underlying32 rfl 0 rfl sz5 rfl (k * 9) (by omega)) ?_; simp only [N]
   refine wl_store1e H 3 rfl rfl rfl rfl (((putAt (S.set (36 + (((p.threads.l.getD k default).l.getD ((S.getD (k * 9) 0).toNat) default).loc).toNat) (turnF ((p.threads.l.getD k default).l.getD ((S.getD (k * 9) 0).toNat) default) ((S.drop (k * 9 + 1)).take 8) (S.getD (36 + (((p.threads.l.getD k default).l.getD ((S.getD (k * 9) 0).toNat) default).loc).toNat) 0))) (k * 9) ((p.threads.l.getD k default).l.getD ((S.getD (k * 9) 0).toNat) default).dst (S.getD (36 + (((p.threads.l.getD k default).l.getD ((S.getD (k * 9) 0).toNat) default).loc).toNat) 0)).getD (k * 9) 0) + (1 : UInt8)) rfl sz5 (k * 9) rfl (by first | omega | simp [LN, enc_length, putAt_length, localF_length, thOf_length] <;> omega) ?_
   clear H; intro w12 H; simp only [M] at H
   simp only [N]
   refine wnr ?_
   refine wr (rp_loadWe H 3 rfl rfl rfl Tryz.underlying41 rfl (by first | exact sz41 | (rw [sz41]; congr 1; first | omega | simp [LN, enc_length, putAt_length, localF_length, thOf_length] <;> omega)) rfl) ?_; simp only [N]
   refine wl_storeW H 2 rfl rfl rfl rfl (vs := (enc ((putAt (S.set (36 + (((p.threads.l.getD k default).l.getD ((S.getD (k * 9) 0).toNat) default).loc).toNat) (turnF ((p.threads.l.getD k default).l.getD ((S.getD (k * 9) 0).toNat) default) ((S.drop (k * 9 + 1)).take 8) (S.getD (36 + (((p.threads.l.getD k default).l.getD ((S.getD (k * 9) 0).toNat) default).loc).toNat) 0))) (k * 9) ((p.threads.l.getD k default).l.getD ((S.getD (k * 9) 0).toNat) default).dst (S.getD (36 + (((p.threads.l.getD k default).l.getD ((S.getD (k * 9) 0).toNat) default).loc).toNat) 0)).set (k * 9) (((putAt (S.set (36 + (((p.threads.l.getD k default).l.getD ((S.getD (k * 9) 0).toNat) default).loc).toNat) (turnF ((p.threads.l.getD k default).l.getD ((S.getD (k * 9) 0).toNat) default) ((S.drop (k * 9 + 1)).take 8) (S.getD (36 + (((p.threads.l.getD k default).l.getD ((S.getD (k * 9) 0).toNat) default).loc).toNat) 0))) (k * 9) ((p.threads.l.getD k default).l.getD ((S.getD (k * 9) 0).toNat) default).dst (S.getD (36 + (((p.threads.l.getD k default).l.getD ((S.getD (k * 9) 0).toNat) default).loc).toNat) 0)).getD (k * 9) 0) + (1 : UInt8)))).toArray) rfl (fun v hv => enc_one v (by simpa using hv)) (by first | (rw [sz41]; congr 1; done) | (rw [sz41]; congr 1; first | omega | simp [LN, enc_length, putAt_length, localF_length, thOf_length] <;> omega)) (by first | omega | simp [LN, enc_length, putAt_length, localF_length, thOf_length] <;> omega) ?_
   clear H; intro w13 H; simp only [M] at H
   simp only [N]
   refine wpList_nil ?_
   refine wp_ret ?_
   try simp only [Exit.inBlock, Exit.then]
   refine bodyPost_ret (results1 rfl (rv_agg H 2 rfl rfl Tryz.underlying41 rfl (by first | exact sz41 | (rw [sz41]; congr 1; first | omega | simp [LN, enc_length, putAt_length, localF_length, thOf_length] <;> omega)))) rfl ?_
   exact ⟨by simp only [goesF, pcOf, insAt, thOf, hc1, hc2, if_true, if_false, Bool.false_eq_true]; try rfl, H.ext⟩
  · --F 2
   have hc2N : (((p.threads.l.getD k default).l.getD ((S.getD (k * 9) 0).toNat) default).op).toNat = 2 := u8_eq2 hc2
   refine wp_skip ?_
   refine wsr ?_
   refine wmv (iv (k : Int)) ?_; simp only [N]
   refine wr (rp_fieldAddr rfl Tryz.underlying41 rfl 0 rfl sz33 rfl 0 rfl) ?_; simp only [N]
   refine wr (rp_indexAddr_arr rfl Tryz.underlying33 sz32 rfl k rfl (by omega) (k * 9) (by omega)) ?_; simp only [N]
   refine wr (rp_fieldAddr rfl Tryz.underlying32 rfl 0 rfl sz5 rfl (k * 9) (by omega)) ?_; simp only [N]
   refine wr (rp_load1e H 3 rfl rfl rfl Tryz.underlying5 rfl (k * 9) rfl (by first | omega | simp [LN, enc_length, putAt_length, localF_length, thOf_length] <;> omega)) ?_; simp only [N]
   refine wr (rp_u8_add rfl ((S.set (36 + (((p.threads.l.getD k default).l.getD ((S.getD (k * 9) 0).toNat) default).loc).toNat) (turnF ((p.threads.l.getD k default).l.getD ((S.getD (k * 9) 0).toNat) default) ((S.drop (k * 9 + 1)).take 8) (S.getD (36 + (((p.threads.l.getD k default).l.getD ((S.getD (k * 9) 0).toNat) default).loc).toNat) 0))).getD (k * 9) 0) (1 : UInt8) rfl rfl) ?_; simp only [N]
   refine wr (rp_fieldAddr rfl Tryz.underlying41 rfl 0 rfl sz33 rfl 0 rfl) ?_; simp only [N]
   refine wr (rp_indexAddr_arr rfl Tryz.underlying33 sz32 rfl k rfl (by omega) (k * 9) (by omega)) ?_; simp only [N]
   refine wr (rp_fieldAddr rfl Tryz.underlying32 rfl 0 rfl sz5 rfl (k * 9) (by omega)) ?_; simp only [N]
   refine wl_store1e H 3 rfl rfl rfl rfl (((S.set (36 + (((p.threads.l.getD k default).l.getD ((S.getD (k * 9) 0).toNat) default).loc).toNat) (turnF ((p.threads.l.getD k default).l.getD ((S.getD (k * 9) 0).toNat) default) ((S.drop (k * 9 + 1)).take 8) (S.getD (36 + (((p.threads.l.getD k default).l.getD ((S.getD (k * 9) 0).toNat) default).loc).toNat) 0))).getD (k * 9) 0) + (1 : UInt8)) rfl sz5 (k * 9) rfl (by first | omega | simp [LN, enc_length, putAt_length, localF_length, thOf_length] <;> omega) ?_
   clear H; intro w14 H; simp only [M] at H
   simp only [N]
   refine wnr ?_
   refine wr (rp_loadWe H 3 rfl rfl rfl Tryz.underlying41 rfl (by first | exact sz41 | (rw [sz41]; congr 1; first | omega | simp [LN, enc_length, putAt_length, localF_length, thOf_length] <;> omega)) rfl) ?_; simp only [N]
   refine wl_storeW H 2 rfl rfl rfl rfl (vs := (enc ((S.set (36 + (((p.threads.l.getD k default).l.getD ((S.getD (k * 9) 0).toNat) default).loc).toNat) (turnF ((p.threads.l.getD k default).l.getD ((S.getD (k * 9) 0).toNat) default) ((S.drop (k * 9 + 1)).take 8) (S.getD (36 + (((p.threads.l.getD k default).l.getD ((S.getD (k * 9) 0).toNat) default).loc).toNat) 0))).set (k * 9) (((S.set (36 + (((p.threads.l.getD k default).l.getD ((S.getD (k * 9) 0).toNat) default).loc).toNat) (turnF ((p.threads.l.getD k default).l.getD ((S.getD (k * 9) 0).toNat) default) ((S.drop (k * 9 + 1)).take 8) (S.getD (36 + (((p.threads.l.getD k default).l.getD ((S.getD (k * 9) 0).toNat) default).loc).toNat) 0))).getD (k * 9) 0) + (1 : UInt8)))).toArray) rfl (fun v hv => enc_one v (by simpa using hv)) (by first | (rw [sz41]; congr 1; done) | (rw [sz41]; congr 1; first | omega | simp [LN, enc_length, putAt_length, localF_length, thOf_length] <;> omega)) (by first | omega | simp [LN, enc_length, putAt_length, localF_length, thOf_length] <;> omega) ?_
   clear H; intro w15 H; simp only [M] at H
   simp only [N]
   refine wpList_nil ?_
   refine wp_ret ?_
   try simp only [Exit.inBlock, Exit.then]
   refine bodyPost_ret (results1 rfl (rv_agg H 2 rfl rfl Tryz.underlying41 rfl (by first | exact sz41 | (rw [sz41]; congr 1; first | omega | simp [LN, enc_length, putAt_length, localF_length, thOf_length] <;> omega)))) rfl ?_
   exact ⟨by simp only [goesF, pcOf, insAt, thOf, hc1, hc2, if_true, if_false, Bool.false_eq_true]; try rfl, H.ext⟩

end Go.Proofs.YtimonjemjhecoaaGreatDoor
