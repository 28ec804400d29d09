/- Walks, printed by a program of this repository (wip/tool). -/
import Derived.Test.YtimonjemjhecoaaGreatDoorSxRange
import Derived.Test.YtimonjemjhecoaaGreatDoorShelf
namespace Go.Proofs.YtimonjemjhecoaaGreatDoor
open Go.RowKit
open Go
attribute [local irreducible] wpList wpQuiet wpX Code.wp
set_option maxHeartbeats 1000000
set_option maxRecDepth 100000
set_option linter.unusedSimpArgs false
set_option linter.unusedVariables false

def worth (a : Arg) (regs : List UInt8) : UInt8 := if a.reg then (if a.n < 8 then regs.getD a.n.toNat 0 else 0) else a.n

theorem worth_spec (a : Arg) (regs : List UInt8) (hl : regs.length = 8) (w : World) :
    Calls Tryz.prog 16 #[.agg a.cells.toArray, .agg (enc regs).toArray] w fun e w' => e = .returned (bv (worth a regs)) ∧ Ext w w' := by
 have H := Own.start w
 go_enter Tryz.func16, Tryz.ntmps16
 refine wsr ?_
 refine wl_box H rfl rfl (v := .agg (a.cells).toArray) rfl ?_
 clear H; intro b1 w1 hnb1 H; dsimp only [Value.cells] at H
 simp only [N]
 refine wl_box H rfl rfl (v := .agg (enc regs).toArray) rfl ?_
 clear H; intro b2 w2 hnb2 H; dsimp only [Value.cells] at H
 simp only [N]
 refine wasg (bv (0 : UInt8)) ?_; simp only [N]
 refine wpList_nil ?_
 refine wp_seq ?_; refine wp_block ?_
 refine wsr ?_
 refine wr (rp_fieldAddr rfl Tryz.underlying56 rfl 0 rfl sz4 rfl 0 rfl) ?_; simp only [N]
 refine wr (rp_load1 H 1 rfl rfl rfl Tryz.underlying4 rfl (v := .bool a.reg) rfl) ?_; simp only [N]
 refine wr (rp_not rfl a.reg rfl) ?_; simp only [N]
 refine wasg (.bool (!a.reg)) ?_; simp only [N]
 refine wpList_nil ?_
 refine wp_cond_split rfl (fun hc1 => ?_) (fun hc1 => ?_)
 · --T 1
  have hc1n : a.reg = false := by simpa using hc1
  refine wsr ?_
  refine wr (rp_fieldAddr rfl Tryz.underlying56 rfl 1 rfl sz5 rfl 1 rfl) ?_; simp only [N]
  refine wr (rp_load1 H 1 rfl rfl rfl Tryz.underlying5 rfl (v := bv a.n) rfl) ?_; simp only [N]
  refine wasg (bv a.n) ?_; simp only [N]
  refine wpList_nil ?_
  refine wp_ret ?_
  try simp only [Exit.inBlock, Exit.then]
  refine bodyPost_ret (results1 rfl (rv_tmp rfl)) rfl ?_
  exact ⟨by simp_all [worth], H.ext⟩
 · --F 1
  have hc1n : a.reg = true := by simpa using hc1
  refine wsr ?_
  refine wr (rp_fieldAddr rfl Tryz.underlying56 rfl 1 rfl sz5 rfl 1 rfl) ?_; simp only [N]
  refine wr (rp_load1 H 1 rfl rfl rfl Tryz.underlying5 rfl (v := bv a.n) rfl) ?_; simp only [N]
  refine wr (rp_u8_lss rfl a.n (8 : UInt8) rfl rfl) ?_; simp only [N]
  refine wasg (.bool (decide (a.n < (8 : UInt8)))) ?_; simp only [N]
  refine wpList_nil ?_
  refine wp_cond_split rfl (fun hc2 => ?_) (fun hc2 => ?_)
  · --T 2
   have hc2N : (a.n).toNat < 8 := u8_lt hc2
   refine wsr ?_
   refine wr (rp_fieldAddr rfl Tryz.underlying56 rfl 1 rfl sz5 rfl 1 rfl) ?_; simp only [N]
   refine wr (rp_load1 H 1 rfl rfl rfl Tryz.underlying5 rfl (v := bv a.n) rfl) ?_; simp only [N]
   refine wr (rp_indexAddr_arr rfl Tryz.underlying30 sz5 rfl (a.n).toNat rfl (by omega) ((a.n).toNat) (by omega)) ?_; simp only [N]
   refine wr (rp_load1e H 0 rfl rfl rfl Tryz.underlying5 rfl ((a.n).toNat) rfl (by first | omega | simp [LN, enc_length, putAt_length, localF_length] <;> omega)) ?_; simp only [N]
   refine wasg (bv (regs.getD ((a.n).toNat) 0)) ?_; simp only [N]
   refine wpList_nil ?_
   refine wp_ret ?_
   try simp only [Exit.inBlock, Exit.then]
   refine bodyPost_ret (results1 rfl (rv_tmp rfl)) rfl ?_
   exact ⟨by simp_all [worth], H.ext⟩
  · --F 2
   have hc2N : 8 ≤ (a.n).toNat := u8_ge hc2
   refine wp_skip ?_
   refine wsr ?_
   refine wasg (bv (0 : UInt8)) ?_; simp only [N]
   refine wpList_nil ?_
   refine wp_ret ?_
   try simp only [Exit.inBlock, Exit.then]
   refine bodyPost_ret (results1 rfl (rv_tmp rfl)) rfl ?_
   exact ⟨by simp_all [worth], H.ext⟩

def putAt (s : List UInt8) (o : Nat) (d v : UInt8) : List UInt8 := if d < 8 then s.set (o + 1 + d.toNat) v else s
theorem putAt_length (s : List UInt8) (o : Nat) (d v : UInt8) : (putAt s o d v).length = s.length := by unfold putAt; split <;> simp

theorem put_spec (b o : Nat) (d v : UInt8) (cs : List UInt8) (T : Nat) (w : World) (ho : o + 9 ≤ cs.length) (hb : w.heap[b]? = some (.cells (enc cs).toArray T (0, 0))) :
    Calls Tryz.prog 59 #[.pointer (some ⟨b, o, none⟩), bv d, bv v] w fun e w' => e = .returned (.tuple #[]) ∧ Chg [b] w w' ∧ w'.heap[b]? = some (.cells (enc (putAt cs o d v)).toArray T (0, 0)) := by
 have H := Own.borrow hb
 go_enter Tryz.func59, Tryz.ntmps59
 refine wsr ?_
 refine wmv (bv d) ?_; simp only [N]
 refine wr (rp_u8_lss rfl d (8 : UInt8) rfl rfl) ?_; simp only [N]
 refine wpList_nil ?_
 refine wp_cond_split rfl (fun hc1 => ?_) (fun hc1 => ?_)
 · --T 1
  have hc1N : d.toNat < 8 := u8_lt hc1
  refine wp_region_lit ?_; refine wmv (.pointer (some ⟨b, o, none⟩)) ?_; simp only [N]
  refine wmv (bv d) ?_; simp only [N]
  refine wmv (bv v) ?_; simp only [N]
  refine wr (rp_nilCheck rfl rfl) ?_; simp only [N]
  refine wr (rp_fieldAddr rfl Tryz.underlying32 rfl 1 rfl sz30 rfl (o + 1) (by omega)) ?_; simp only [N]
  refine wr (rp_indexAddr_arr rfl Tryz.underlying30 sz5 rfl d.toNat rfl (by omega) (o + 1 + d.toNat) (by omega)) ?_; simp only [N]
  refine wl_store1e H 0 rfl rfl rfl rfl v rfl sz5 (o + 1 + d.toNat) rfl (by first | omega | simp [LN, enc_length, putAt_length, localF_length] <;> omega) ?_
  clear H; intro w1 H; simp only [M] at H
  simp only [N]
  refine wpList_nil ?_
  try simp only [Exit.inBlock, Exit.then]
  refine bodyPost_end (results_none rfl _ _ _) rfl ?_
  have h8 : d < 8 := by simpa using hc1
  exact ⟨rfl, H.chg, by have h := H.blk (i := 0) rfl; simpa [putAt, h8] using h⟩
 · --F 1
  have hc1N : 8 ≤ d.toNat := u8_ge hc1
  refine wp_skip ?_
  try simp only [Exit.inBlock, Exit.then]
  refine bodyPost_end (results_none rfl _ _ _) rfl ?_
  have h8 : ¬ d < 8 := by simpa using hc1
  exact ⟨rfl, H.chg, by have h := H.blk (i := 0) rfl; simpa [putAt, h8] using h⟩

def moved (fn a b : UInt8) : UInt8 := if fn == 1 then a + b else if fn == 2 then a - b else if fn == 3 then a ^^^ b else 0
def fits (fn a b : UInt8) : Bool := if fn == 4 then a == b else if fn == 5 then a != b else if fn == 6 then decide (a < b) else false
def localF (i : Ins) (t : List UInt8) : List UInt8 × Bool :=
  let a := worth i.a ((t.drop 1).take 8)
  let b := worth i.b ((t.drop 1).take 8)
  if i.op == 3 then
    let t := putAt t 0 i.dst (moved i.fn a b)
    (t.set 0 (t.getD 0 0 + 1), true)
  else if i.op == 8 then
    let t := if fits i.fn a b then t.set 0 (t.getD 0 0 + i.skip) else t
    (t.set 0 (t.getD 0 0 + 1), true)
  else if i.op == 7 then (t.set 0 (t.getD 0 0 + 1), true)
  else (t, false)
theorem localF_length (i : Ins) (t : List UInt8) : (localF i t).1.length = t.length := by
  unfold localF
  simp only
  repeat' split
  all_goals simp [putAt_length]
theorem mfind_moved (fn a b : UInt8) : (mfind fn ([] ++ [((1 : UInt8), bv (a + b))] ++ [((2 : UInt8), bv (a - b))] ++ [((3 : UInt8), bv (a ^^^ b))])).getD (.int .u8 0) = bv (moved fn a b) := by
  simp only [List.nil_append, List.cons_append, mfind, moved]
  split
  · rfl
  · split
    · rfl
    · split
      · rfl
      · rfl

theorem local_spec (i : Ins) (t : List UInt8) (hl : t.length = 9) (w : World) :
    Calls Tryz.prog 57 #[.agg i.cells.toArray, .agg (enc t).toArray] w fun e w' => e = .returned (.tuple #[.agg (enc (localF i t).1).toArray, .bool (localF i t).2]) ∧ Ext w w' := by
 have H := Own.start w
 go_enter Tryz.func57, Tryz.ntmps57
 refine wsr ?_
 refine wl_box H rfl rfl (v := .agg (i.cells).toArray) rfl ?_
 clear H; intro b1 w1 hnb1 H; dsimp only [Value.cells] at H
 simp only [N]
 refine wl_box H rfl rfl (v := .agg (enc t).toArray) rfl ?_
 clear H; intro b2 w2 hnb2 H; dsimp only [Value.cells] at H
 simp only [N]
 refine wl_alloc H rfl rfl zv32 ?_
 clear H; intro b3 w3 hnb3 H; dsimp only [Value.cells] at H
 simp only [N]
 refine wasg (.bool false) ?_; simp only [N]
 refine wpList_nil ?_
 refine wp_seq ?_; refine wp_region_own H (by kernel_rfl) (by kernel_rfl) ?_
 refine wq_run rfl (fun w H => rp_fieldAddr rfl Tryz.underlying58 rfl 3 rfl sz56 rfl 3 rfl) ?_; simp only [N]
 refine wq_run rfl (fun w H => rp_loadN H 2 rfl rfl rfl Tryz.underlying56 rfl sz56 (Nat.le_of_ble_eq_true rfl) (cs' := i.a.cells) rfl) ?_; simp only [N]
 refine wq_run rfl (fun w H => rp_fieldAddr rfl Tryz.underlying32 rfl 1 rfl sz30 rfl 1 rfl) ?_; simp only [N]
 refine wq_run rfl (fun w H => rp_loadNe H 1 rfl rfl rfl Tryz.underlying30 rfl sz30 1 (by omega) (by first | omega | simp [LN, enc_length, putAt_length, localF_length] <;> omega)) ?_; simp only [N]
 refine wq_call rfl (rc_go Tryz.func16 (by kernel_rfl) rfl) (fun w H => worth_spec i.a ((t.drop 1).take 8) (by first | omega | simp [LN, enc_length, putAt_length, localF_length] <;> omega) _) ?_; simp only [N]
 refine wq_run rfl (fun w H => rp_fieldAddr rfl Tryz.underlying58 rfl 5 rfl sz56 rfl 5 rfl) ?_; simp only [N]
 refine wq_run rfl (fun w H => rp_loadN H 2 rfl rfl rfl Tryz.underlying56 rfl sz56 (Nat.le_of_ble_eq_true rfl) (cs' := i.b.cells) rfl) ?_; simp only [N]
 refine wq_run rfl (fun w H => rp_fieldAddr rfl Tryz.underlying32 rfl 1 rfl sz30 rfl 1 rfl) ?_; simp only [N]
 refine wq_run rfl (fun w H => rp_loadNe H 1 rfl rfl rfl Tryz.underlying30 rfl sz30 1 (by omega) (by first | omega | simp [LN, enc_length, putAt_length, localF_length] <;> omega)) ?_; simp only [N]
 refine wq_call rfl (rc_go Tryz.func16 (by kernel_rfl) rfl) (fun w H => worth_spec i.b ((t.drop 1).take 8) (by first | omega | simp [LN, enc_length, putAt_length, localF_length] <;> omega) _) ?_; simp only [N]
 refine wq_run rfl (fun w H => rp_assign rfl (v := bv (worth i.a ((t.drop 1).take 8))) rfl) ?_; simp only [N]
 refine wq_run rfl (fun w H => rp_assign rfl (v := bv (worth i.b ((t.drop 1).take 8))) rfl) ?_; simp only [N]
 refine wq_nil ?_
 clear H; intro w4 H
 refine wp_seq ?_; refine wsr ?_
 refine wr (rp_fieldAddr rfl Tryz.underlying58 rfl 0 rfl sz5 rfl 0 rfl) ?_; simp only [N]
 refine wr (rp_load1 H 2 rfl rfl rfl Tryz.underlying5 rfl (v := bv i.op) rfl) ?_; simp only [N]
 refine wpList_nil ?_
 refine wp_block ?_
 refine wsr ?_
 refine wr (rp_u8_eql rfl i.op (3 : UInt8) rfl rfl) ?_; simp only [N]
 refine wasg (.bool (i.op == (3 : UInt8))) ?_; simp only [N]
 refine wpList_nil ?_
 refine wp_cond_split rfl (fun hc1 => ?_) (fun hc1 => ?_)
 · --T 1
  have hc1N : (i.op).toNat = 3 := u8_eq hc1
  refine wp_region_lit ?_; refine wr (rp_fieldAddr rfl Tryz.underlying58 rfl 1 rfl sz5 rfl 1 rfl) ?_; simp only [N]
  refine wr (rp_load1 H 2 rfl rfl rfl Tryz.underlying5 rfl (v := bv i.dst) rfl) ?_; simp only [N]
  refine wl_makeMap H rfl rfl ?_
  clear H; intro b4 w5 _ H
  simp only [N]
  refine wmv (bv (worth i.a ((t.drop 1).take 8))) ?_; simp only [N]
  refine wmv (bv (worth i.b ((t.drop 1).take 8))) ?_; simp only [N]
  refine wr (rp_u8_add rfl (worth i.a ((t.drop 1).take 8)) (worth i.b ((t.drop 1).take 8)) rfl rfl) ?_; simp only [N]
  refine wl_insert H 0 rfl rfl Tryz.underlying143 Tryz.underlying5 rfl rfl (1 : UInt8) rfl (v := bv ((worth i.a ((t.drop 1).take 8)) + (worth i.b ((t.drop 1).take 8)))) rfl rfl ?_
  clear H; intro w6 H; simp only [M] at H
  simp only [N]
  refine wmv (bv (worth i.a ((t.drop 1).take 8))) ?_; simp only [N]
  refine wmv (bv (worth i.b ((t.drop 1).take 8))) ?_; simp only [N]
  refine wr (rp_u8_sub rfl (worth i.a ((t.drop 1).take 8)) (worth i.b ((t.drop 1).take 8)) rfl rfl) ?_; simp only [N]
  refine wl_insert H 0 rfl rfl Tryz.underlying143 Tryz.underlying5 rfl rfl (2 : UInt8) rfl (v := bv ((worth i.a ((t.drop 1).take 8)) - (worth i.b ((t.drop 1).take 8)))) rfl rfl ?_
  clear H; intro w7 H; simp only [M] at H
  simp only [N]
  refine wmv (bv (worth i.a ((t.drop 1).take 8))) ?_; simp only [N]
  refine wmv (bv (worth i.b ((t.drop 1).take 8))) ?_; simp only [N]
  refine wr (rp_u8_xor rfl (worth i.a ((t.drop 1).take 8)) (worth i.b ((t.drop 1).take 8)) rfl rfl) ?_; simp only [N]
  refine wl_insert H 0 rfl rfl Tryz.underlying143 Tryz.underlying5 rfl rfl (3 : UInt8) rfl (v := bv ((worth i.a ((t.drop 1).take 8)) ^^^ (worth i.b ((t.drop 1).take 8)))) rfl rfl ?_
  clear H; intro w8 H; simp only [M] at H
  simp only [N]
  refine wmv (.map (some b4)) ?_; simp only [N]
  refine wr (rp_fieldAddr rfl Tryz.underlying58 rfl 7 rfl sz5 rfl 7 rfl) ?_; simp only [N]
  refine wr (rp_load1 H 3 rfl rfl rfl Tryz.underlying5 rfl (v := bv i.fn) rfl) ?_; simp only [N]
  refine wr (rp_lookup8 H 0 rfl Tryz.underlying143 Tryz.underlying5 zv5 rfl rfl i.fn rfl (v := bv (moved i.fn (worth i.a ((t.drop 1).take 8)) (worth i.b ((t.drop 1).take 8)))) (by exact mfind_moved _ _ _)) ?_; simp only [N]
  refine wl_callP H 2 rfl (rc_go Tryz.func59 (by kernel_rfl) rfl) rfl (put_spec _ _ i.dst (moved i.fn (worth i.a ((t.drop 1).take 8)) (worth i.b ((t.drop 1).take 8))) t _ _ (by first | omega | simp [LN, enc_length, putAt_length, localF_length] <;> omega) (H.blk (i := 2) rfl)) ?_
  clear H; intro w9 H; simp only [M] at H
  simp only [N]
  refine wpList_nil ?_
  refine wsr ?_
  refine wr (rp_fieldAddr rfl Tryz.underlying32 rfl 0 rfl sz5 rfl 0 rfl) ?_; simp only [N]
  refine wr (rp_load1e H 2 rfl rfl rfl Tryz.underlying5 rfl 0 rfl (by first | omega | simp [LN, enc_length, putAt_length, localF_length] <;> omega)) ?_; simp only [N]
  refine wr (rp_u8_add rfl ((putAt t 0 i.dst (moved i.fn (worth i.a ((t.drop 1).take 8)) (worth i.b ((t.drop 1).take 8)))).getD 0 0) (1 : UInt8) rfl rfl) ?_; simp only [N]
  refine wr (rp_fieldAddr rfl Tryz.underlying32 rfl 0 rfl sz5 rfl 0 rfl) ?_; simp only [N]
  refine wl_store1e H 2 rfl rfl rfl rfl (((putAt t 0 i.dst (moved i.fn (worth i.a ((t.drop 1).take 8)) (worth i.b ((t.drop 1).take 8)))).getD 0 0) + (1 : UInt8)) rfl sz5 0 rfl (by first | omega | simp [LN, enc_length, putAt_length, localF_length] <;> omega) ?_
  clear H; intro w10 H; simp only [M] at H
  simp only [N]
  refine wpList_nil ?_
  refine wsr ?_
  refine wr (rp_loadWe H 2 rfl rfl rfl Tryz.underlying32 rfl (by first | exact sz32 | (rw [sz32]; congr 1; first | omega | simp [LN, enc_length, putAt_length, localF_length] <;> omega)) rfl) ?_; simp only [N]
  refine wl_storeW H 1 rfl rfl rfl rfl (vs := (enc ((putAt t 0 i.dst (moved i.fn (worth i.a ((t.drop 1).take 8)) (worth i.b ((t.drop 1).take 8)))).set 0 (((putAt t 0 i.dst (moved i.fn (worth i.a ((t.drop 1).take 8)) (worth i.b ((t.drop 1).take 8)))).getD 0 0) + (1 : UInt8)))).toArray) rfl (fun v hv => enc_one v (by simpa using hv)) (by first | (rw [sz32]; congr 1; done) | (rw [sz32]; congr 1; first | omega | simp [LN, enc_length, putAt_length, localF_length] <;> omega)) (by first | omega | simp [LN, enc_length, putAt_length, localF_length] <;> omega) ?_
  clear H; intro w11 H; simp only [M] at H
  simp only [N]
  refine wasg (.bool true) ?_; simp only [N]
  refine wpList_nil ?_
  refine wp_ret ?_
  try simp only [Exit.inBlock, Exit.then]
  refine bodyPost_ret (results2 rfl (rv_agg H 1 rfl rfl Tryz.underlying32 rfl (by first | exact sz32 | (rw [sz32]; congr 1; first | omega | simp [LN, enc_length, putAt_length, localF_length] <;> omega))) (rv_tmp rfl)) rfl ?_
  exact ⟨by simp_all [localF], H.ext⟩
 · --F 1
  have hc1N : (i.op).toNat ≠ 3 := u8_ne hc1
  refine wsr ?_
  refine wr (rp_u8_eql rfl i.op (8 : UInt8) rfl rfl) ?_; simp only [N]
  refine wasg (.bool (i.op == (8 : UInt8))) ?_; simp only [N]
  refine wpList_nil ?_
  refine wp_cond_split rfl (fun hc2 => ?_) (fun hc2 => ?_)
  · --T 2
   have hc2N : (i.op).toNat = 8 := u8_eq hc2
   refine wp_seq ?_; refine wp_cutO H (fun a' => ∃ (u42 : Value) (u43 : Value) (u44 : Value) (u45 : Value) (u46 : Value) (u47 : Value) (u48 : Value) (u49 : Value) (u50 : Value) (u51 : Value) (u52 : Value) (u53 : Value) (u54 : Value) (u55 : Value) (u56 : Value) (u57 : Value) (u58 : Value) (u59 : Value) (u60 : Value) (u61 : Value) (u62 : Value) (u63 : Value) (u64 : Value) (u65 : Value) (u66 : Value) (u67 : Value) (u68 : Value) (r69 : Bool), r69 = (fits i.fn (worth i.a ((t.drop 1).take 8)) (worth i.b ((t.drop 1).take 8))) ∧  a' = ⟨#[.agg (i.cells).toArray, .agg (enc t).toArray, .pointer (some ⟨b1, 0, none⟩), .pointer (some ⟨b2, 0, none⟩), .pointer (some ⟨b3, 0, none⟩), .bool false, bv (worth i.a ((t.drop 1).take 8)), bv (worth i.b ((t.drop 1).take 8)), .pointer (some ⟨b1, 3, none⟩), .agg (i.a.cells).toArray, .pointer (some ⟨b2, 1, none⟩), .agg (enc ((t.drop 1).take 8)).toArray, bv (worth i.a ((t.drop 1).take 8)), .pointer (some ⟨b1, 5, none⟩), .agg (i.b.cells).toArray, .pointer (some ⟨b2, 1, none⟩), .agg (enc ((t.drop 1).take 8)).toArray, bv (worth i.b ((t.drop 1).take 8)), .pointer (some ⟨b1, 0, none⟩), bv i.op, uU, .bool (i.op == (3 : UInt8)), .bool (i.op == (3 : UInt8)), uU, uU, uU, uU, uU, uU, uU, uU, uU, uU, uU, uU, uU, uU, uU, uU, uU, .bool (i.op == (8 : UInt8)), .bool (i.op == (8 : UInt8)), u42, u43, u44, u45, u46, u47, u48, u49, u50, u51, u52, u53, u54, u55, u56, u57, u58, u59, u60, u61, u62, u63, u64, u65, u66, u67, u68, .bool r69, uU, uU, uU, uU, uU, uU, uU, uU, uU, uU, uU, uU, uU], []⟩) ?_ ?_
   ·
    refine wp_region_lit ?_; refine wr (rp_fieldAddr rfl Tryz.underlying58 rfl 7 rfl sz5 rfl 7 rfl) ?_; simp only [N]
    refine wr (rp_load1 H 2 rfl rfl rfl Tryz.underlying5 rfl (v := bv i.fn) rfl) ?_; simp only [N]
    refine wr (rp_u8_eql rfl i.fn (4 : UInt8) rfl rfl) ?_; simp only [N]
    refine wmv (.bool (i.fn == (4 : UInt8))) ?_; simp only [N]
    cases hg1 : (i.fn == (4 : UInt8))
    · --false
     have hg1N : (i.fn).toNat ≠ 4 := u8_ne hg1
     refine wskf ?_; simp only [N]
     refine wskf ?_; simp only [N]
     refine wskf ?_; simp only [N]
     refine wr (rp_pickF rfl rfl (v := .bool false) rfl) ?_; simp only [N]
     refine wmv (.bool false) ?_; simp only [N]
     refine wr (rp_fieldAddr rfl Tryz.underlying58 rfl 7 rfl sz5 rfl 7 rfl) ?_; simp only [N]
     refine wr (rp_load1 H 2 rfl rfl rfl Tryz.underlying5 rfl (v := bv i.fn) rfl) ?_; simp only [N]
     refine wr (rp_u8_eql rfl i.fn (5 : UInt8) rfl rfl) ?_; simp only [N]
     refine wmv (.bool (i.fn == (5 : UInt8))) ?_; simp only [N]
     cases hg2 : (i.fn == (5 : UInt8))
     · --false
      have hg2N : (i.fn).toNat ≠ 5 := u8_ne hg2
      refine wskf ?_; simp only [N]
      refine wskf ?_; simp only [N]
      refine wskf ?_; simp only [N]
      refine wr (rp_pickF rfl rfl (v := .bool false) rfl) ?_; simp only [N]
      refine wr (rp_pickF rfl rfl (v := .bool false) rfl) ?_; simp only [N]
      refine wmv (.bool false) ?_; simp only [N]
      refine wr (rp_fieldAddr rfl Tryz.underlying58 rfl 7 rfl sz5 rfl 7 rfl) ?_; simp only [N]
      refine wr (rp_load1 H 2 rfl rfl rfl Tryz.underlying5 rfl (v := bv i.fn) rfl) ?_; simp only [N]
      refine wr (rp_u8_eql rfl i.fn (6 : UInt8) rfl rfl) ?_; simp only [N]
      refine wmv (.bool (i.fn == (6 : UInt8))) ?_; simp only [N]
      cases hg3 : (i.fn == (6 : UInt8))
      · --false
       have hg3N : (i.fn).toNat ≠ 6 := u8_ne hg3
       refine wskf ?_; simp only [N]
       refine wskf ?_; simp only [N]
       refine wskf ?_; simp only [N]
       refine wr (rp_pickF rfl rfl (v := .bool false) rfl) ?_; simp only [N]
       refine wr (rp_pickF rfl rfl (v := .bool false) rfl) ?_; simp only [N]
       refine wpList_nil ?_
       refine ⟨rfl, ⟨_, _, _, _, _, _, _, _, _, _, _, _, _, _, _, _, _, _, _, _, _, _, _, _, _, _, _, false, (by simp_all [fits]), rfl⟩, H⟩
      · --true
       have hg3N : (i.fn).toNat = 6 := u8_eq hg3
       refine wmv (bv (worth i.a ((t.drop 1).take 8))) ?_; simp only [N]
       refine wmv (bv (worth i.b ((t.drop 1).take 8))) ?_; simp only [N]
       refine wr (rp_u8_lss rfl (worth i.a ((t.drop 1).take 8)) (worth i.b ((t.drop 1).take 8)) rfl rfl) ?_; simp only [N]
       refine wr (rp_pickT rfl rfl (u := .bool (decide ((worth i.a ((t.drop 1).take 8)) < (worth i.b ((t.drop 1).take 8))))) rfl) ?_; simp only [N]
       refine wr (rp_pickF rfl rfl (v := .bool (decide ((worth i.a ((t.drop 1).take 8)) < (worth i.b ((t.drop 1).take 8))))) rfl) ?_; simp only [N]
       refine wpList_nil ?_
       refine ⟨rfl, ⟨_, _, _, _, _, _, _, _, _, _, _, _, _, _, _, _, _, _, _, _, _, _, _, _, _, _, _, (decide ((worth i.a ((t.drop 1).take 8)) < (worth i.b ((t.drop 1).take 8)))), (by simp_all [fits]), rfl⟩, H⟩
     · --true
      have hg2N : (i.fn).toNat = 5 := u8_eq hg2
      refine wmv (bv (worth i.a ((t.drop 1).take 8))) ?_; simp only [N]
      refine wmv (bv (worth i.b ((t.drop 1).take 8))) ?_; simp only [N]
      refine wr (rp_u8_neq rfl (worth i.a ((t.drop 1).take 8)) (worth i.b ((t.drop 1).take 8)) rfl rfl) ?_; simp only [N]
      refine wr (rp_pickT rfl rfl (u := .bool ((worth i.a ((t.drop 1).take 8)) != (worth i.b ((t.drop 1).take 8)))) rfl) ?_; simp only [N]
      refine wr (rp_pickF rfl rfl (v := .bool ((worth i.a ((t.drop 1).take 8)) != (worth i.b ((t.drop 1).take 8)))) rfl) ?_; simp only [N]
      refine wmv (.bool ((worth i.a ((t.drop 1).take 8)) != (worth i.b ((t.drop 1).take 8)))) ?_; simp only [N]
      cases hg4 : ((worth i.a ((t.drop 1).take 8)) != (worth i.b ((t.drop 1).take 8)))
      · --false
       have hg4N : (worth i.a ((t.drop 1).take 8)).toNat = (worth i.b ((t.drop 1).take 8)).toNat := u8_eq2 hg4
       refine wr (rp_fieldAddr rfl Tryz.underlying58 rfl 7 rfl sz5 rfl 7 rfl) ?_; simp only [N]
       refine wr (rp_load1 H 2 rfl rfl rfl Tryz.underlying5 rfl (v := bv i.fn) rfl) ?_; simp only [N]
       refine wr (rp_u8_eql rfl i.fn (6 : UInt8) rfl rfl) ?_; simp only [N]
       refine wmv (.bool (i.fn == (6 : UInt8))) ?_; simp only [N]
       cases hg5 : (i.fn == (6 : UInt8))
       · --false
        have hg5N : (i.fn).toNat ≠ 6 := u8_ne hg5
        refine wskf ?_; simp only [N]
        refine wskf ?_; simp only [N]
        refine wskf ?_; simp only [N]
        refine wr (rp_pickF rfl rfl (v := .bool false) rfl) ?_; simp only [N]
        refine wr (rp_pickF rfl rfl (v := .bool false) rfl) ?_; simp only [N]
        refine wpList_nil ?_
        refine ⟨rfl, ⟨_, _, _, _, _, _, _, _, _, _, _, _, _, _, _, _, _, _, _, _, _, _, _, _, _, _, _, false, (by simp_all [fits]), rfl⟩, H⟩
       · --true
        have hg5N : (i.fn).toNat = 6 := u8_eq hg5
        refine wmv (bv (worth i.a ((t.drop 1).take 8))) ?_; simp only [N]
        refine wmv (bv (worth i.b ((t.drop 1).take 8))) ?_; simp only [N]
        refine wr (rp_u8_lss rfl (worth i.a ((t.drop 1).take 8)) (worth i.b ((t.drop 1).take 8)) rfl rfl) ?_; simp only [N]
        refine wr (rp_pickT rfl rfl (u := .bool (decide ((worth i.a ((t.drop 1).take 8)) < (worth i.b ((t.drop 1).take 8))))) rfl) ?_; simp only [N]
        refine wr (rp_pickF rfl rfl (v := .bool (decide ((worth i.a ((t.drop 1).take 8)) < (worth i.b ((t.drop 1).take 8))))) rfl) ?_; simp only [N]
        refine wpList_nil ?_
        refine ⟨rfl, ⟨_, _, _, _, _, _, _, _, _, _, _, _, _, _, _, _, _, _, _, _, _, _, _, _, _, _, _, (decide ((worth i.a ((t.drop 1).take 8)) < (worth i.b ((t.drop 1).take 8)))), (by simp_all [fits]), rfl⟩, H⟩
      · --true
       have hg4N : (worth i.a ((t.drop 1).take 8)).toNat ≠ (worth i.b ((t.drop 1).take 8)).toNat := u8_ne2 hg4
       refine wskt ?_; simp only [N]
       refine wskt ?_; simp only [N]
       refine wskt ?_; simp only [N]
       refine wskt ?_; simp only [N]
       refine wl_skip (unwanted0 rfl rfl) ?_; simp only [N]
       refine wl_skip (unwanted0 rfl rfl) ?_; simp only [N]
       refine wl_skip (unwanted0 rfl rfl) ?_; simp only [N]
       refine wskt ?_; simp only [N]
       refine wr (rp_pickT rfl rfl (u := .bool true) rfl) ?_; simp only [N]
       refine wpList_nil ?_
       refine ⟨rfl, ⟨_, _, _, _, _, _, _, _, _, _, _, _, _, _, _, _, _, _, _, _, _, _, _, _, _, _, _, true, (by simp_all [fits]), rfl⟩, H⟩
    · --true
     have hg1N : (i.fn).toNat = 4 := u8_eq hg1
     refine wmv (bv (worth i.a ((t.drop 1).take 8))) ?_; simp only [N]
     refine wmv (bv (worth i.b ((t.drop 1).take 8))) ?_; simp only [N]
     refine wr (rp_u8_eql rfl (worth i.a ((t.drop 1).take 8)) (worth i.b ((t.drop 1).take 8)) rfl rfl) ?_; simp only [N]
     refine wr (rp_pickT rfl rfl (u := .bool ((worth i.a ((t.drop 1).take 8)) == (worth i.b ((t.drop 1).take 8)))) rfl) ?_; simp only [N]
     refine wmv (.bool ((worth i.a ((t.drop 1).take 8)) == (worth i.b ((t.drop 1).take 8)))) ?_; simp only [N]
     cases hg6 : ((worth i.a ((t.drop 1).take 8)) == (worth i.b ((t.drop 1).take 8)))
     · --false
      have hg6N : (worth i.a ((t.drop 1).take 8)).toNat ≠ (worth i.b ((t.drop 1).take 8)).toNat := u8_ne hg6
      refine wr (rp_fieldAddr rfl Tryz.underlying58 rfl 7 rfl sz5 rfl 7 rfl) ?_; simp only [N]
      refine wr (rp_load1 H 2 rfl rfl rfl Tryz.underlying5 rfl (v := bv i.fn) rfl) ?_; simp only [N]
      refine wr (rp_u8_eql rfl i.fn (5 : UInt8) rfl rfl) ?_; simp only [N]
      refine wmv (.bool (i.fn == (5 : UInt8))) ?_; simp only [N]
      cases hg7 : (i.fn == (5 : UInt8))
      · --false
       have hg7N : (i.fn).toNat ≠ 5 := u8_ne hg7
       refine wskf ?_; simp only [N]
       refine wskf ?_; simp only [N]
       refine wskf ?_; simp only [N]
       refine wr (rp_pickF rfl rfl (v := .bool false) rfl) ?_; simp only [N]
       refine wr (rp_pickF rfl rfl (v := .bool false) rfl) ?_; simp only [N]
       refine wmv (.bool false) ?_; simp only [N]
       refine wr (rp_fieldAddr rfl Tryz.underlying58 rfl 7 rfl sz5 rfl 7 rfl) ?_; simp only [N]
       refine wr (rp_load1 H 2 rfl rfl rfl Tryz.underlying5 rfl (v := bv i.fn) rfl) ?_; simp only [N]
       refine wr (rp_u8_eql rfl i.fn (6 : UInt8) rfl rfl) ?_; simp only [N]
       refine wmv (.bool (i.fn == (6 : UInt8))) ?_; simp only [N]
       cases hg8 : (i.fn == (6 : UInt8))
       · --false
        have hg8N : (i.fn).toNat ≠ 6 := u8_ne hg8
        refine wskf ?_; simp only [N]
        refine wskf ?_; simp only [N]
        refine wskf ?_; simp only [N]
        refine wr (rp_pickF rfl rfl (v := .bool false) rfl) ?_; simp only [N]
        refine wr (rp_pickF rfl rfl (v := .bool false) rfl) ?_; simp only [N]
        refine wpList_nil ?_
        refine ⟨rfl, ⟨_, _, _, _, _, _, _, _, _, _, _, _, _, _, _, _, _, _, _, _, _, _, _, _, _, _, _, false, (by simp_all [fits]), rfl⟩, H⟩
       · --true
        have hg8N : (i.fn).toNat = 6 := u8_eq hg8
        refine wmv (bv (worth i.a ((t.drop 1).take 8))) ?_; simp only [N]
        refine wmv (bv (worth i.b ((t.drop 1).take 8))) ?_; simp only [N]
        refine wr (rp_u8_lss rfl (worth i.a ((t.drop 1).take 8)) (worth i.b ((t.drop 1).take 8)) rfl rfl) ?_; simp only [N]
        refine wr (rp_pickT rfl rfl (u := .bool (decide ((worth i.a ((t.drop 1).take 8)) < (worth i.b ((t.drop 1).take 8))))) rfl) ?_; simp only [N]
        refine wr (rp_pickF rfl rfl (v := .bool (decide ((worth i.a ((t.drop 1).take 8)) < (worth i.b ((t.drop 1).take 8))))) rfl) ?_; simp only [N]
        refine wpList_nil ?_
        refine ⟨rfl, ⟨_, _, _, _, _, _, _, _, _, _, _, _, _, _, _, _, _, _, _, _, _, _, _, _, _, _, _, (decide ((worth i.a ((t.drop 1).take 8)) < (worth i.b ((t.drop 1).take 8)))), (by simp_all [fits]), rfl⟩, H⟩
      · --true
       have hg7N : (i.fn).toNat = 5 := u8_eq hg7
       refine wmv (bv (worth i.a ((t.drop 1).take 8))) ?_; simp only [N]
       refine wmv (bv (worth i.b ((t.drop 1).take 8))) ?_; simp only [N]
       refine wr (rp_u8_neq rfl (worth i.a ((t.drop 1).take 8)) (worth i.b ((t.drop 1).take 8)) rfl rfl) ?_; simp only [N]
       refine wr (rp_pickT rfl rfl (u := .bool ((worth i.a ((t.drop 1).take 8)) != (worth i.b ((t.drop 1).take 8)))) rfl) ?_; simp only [N]
       refine wr (rp_pickF rfl rfl (v := .bool ((worth i.a ((t.drop 1).take 8)) != (worth i.b ((t.drop 1).take 8)))) rfl) ?_; simp only [N]
       refine wmv (.bool ((worth i.a ((t.drop 1).take 8)) != (worth i.b ((t.drop 1).take 8)))) ?_; simp only [N]
       cases hg9 : ((worth i.a ((t.drop 1).take 8)) != (worth i.b ((t.drop 1).take 8)))
       · --false
        have hg9N : (worth i.a ((t.drop 1).take 8)).toNat = (worth i.b ((t.drop 1).take 8)).toNat := u8_eq2 hg9
        refine wr (rp_fieldAddr rfl Tryz.underlying58 rfl 7 rfl sz5 rfl 7 rfl) ?_; simp only [N]
        refine wr (rp_load1 H 2 rfl rfl rfl Tryz.underlying5 rfl (v := bv i.fn) rfl) ?_; simp only [N]
        refine wr (rp_u8_eql rfl i.fn (6 : UInt8) rfl rfl) ?_; simp only [N]
        refine wmv (.bool (i.fn == (6 : UInt8))) ?_; simp only [N]
        cases hg10 : (i.fn == (6 : UInt8))
        · --false
         have hg10N : (i.fn).toNat ≠ 6 := u8_ne hg10
         refine wskf ?_; simp only [N]
         refine wskf ?_; simp only [N]
         refine wskf ?_; simp only [N]
         refine wr (rp_pickF rfl rfl (v := .bool false) rfl) ?_; simp only [N]
         refine wr (rp_pickF rfl rfl (v := .bool false) rfl) ?_; simp only [N]
         refine wpList_nil ?_
         refine ⟨rfl, ⟨_, _, _, _, _, _, _, _, _, _, _, _, _, _, _, _, _, _, _, _, _, _, _, _, _, _, _, false, (by simp_all [fits]), rfl⟩, H⟩
        · --true
         have hg10N : (i.fn).toNat = 6 := u8_eq hg10
         refine wmv (bv (worth i.a ((t.drop 1).take 8))) ?_; simp only [N]
         refine wmv (bv (worth i.b ((t.drop 1).take 8))) ?_; simp only [N]
         refine wr (rp_u8_lss rfl (worth i.a ((t.drop 1).take 8)) (worth i.b ((t.drop 1).take 8)) rfl rfl) ?_; simp only [N]
         refine wr (rp_pickT rfl rfl (u := .bool (decide ((worth i.a ((t.drop 1).take 8)) < (worth i.b ((t.drop 1).take 8))))) rfl) ?_; simp only [N]
         refine wr (rp_pickF rfl rfl (v := .bool (decide ((worth i.a ((t.drop 1).take 8)) < (worth i.b ((t.drop 1).take 8))))) rfl) ?_; simp only [N]
         refine wpList_nil ?_
         refine ⟨rfl, ⟨_, _, _, _, _, _, _, _, _, _, _, _, _, _, _, _, _, _, _, _, _, _, _, _, _, _, _, (decide ((worth i.a ((t.drop 1).take 8)) < (worth i.b ((t.drop 1).take 8)))), (by simp_all [fits]), rfl⟩, H⟩
       · --true
        have hg9N : (worth i.a ((t.drop 1).take 8)).toNat ≠ (worth i.b ((t.drop 1).take 8)).toNat := u8_ne2 hg9
        refine wskt ?_; simp only [N]
        refine wskt ?_; simp only [N]
        refine wskt ?_; simp only [N]
        refine wskt ?_; simp only [N]
        refine wl_skip (unwanted0 rfl rfl) ?_; simp only [N]
        refine wl_skip (unwanted0 rfl rfl) ?_; simp only [N]
        refine wl_skip (unwanted0 rfl rfl) ?_; simp only [N]
        refine wskt ?_; simp only [N]
        refine wr (rp_pickT rfl rfl (u := .bool true) rfl) ?_; simp only [N]
        refine wpList_nil ?_
        refine ⟨rfl, ⟨_, _, _, _, _, _, _, _, _, _, _, _, _, _, _, _, _, _, _, _, _, _, _, _, _, _, _, true, (by simp_all [fits]), rfl⟩, H⟩
     · --true
      have hg6N : (worth i.a ((t.drop 1).take 8)).toNat = (worth i.b ((t.drop 1).take 8)).toNat := u8_eq hg6
      refine wskt ?_; simp only [N]
      refine wskt ?_; simp only [N]
      refine wskt ?_; simp only [N]
      refine wskt ?_; simp only [N]
      refine wl_skip (unwanted0 rfl rfl) ?_; simp only [N]
      refine wl_skip (unwanted0 rfl rfl) ?_; simp only [N]
      refine wl_skip (unwanted0 rfl rfl) ?_; simp only [N]
      refine wskt ?_; simp only [N]
      refine wr (rp_pickT rfl rfl (u := .bool true) rfl) ?_; simp only [N]
      refine wmv (.bool true) ?_; simp only [N]
      refine wskt ?_; simp only [N]
      refine wskt ?_; simp only [N]
      refine wskt ?_; simp only [N]
      refine wskt ?_; simp only [N]
      refine wl_skip (unwanted0 rfl rfl) ?_; simp only [N]
      refine wl_skip (unwanted0 rfl rfl) ?_; simp only [N]
      refine wl_skip (unwanted0 rfl rfl) ?_; simp only [N]
      refine wskt ?_; simp only [N]
      refine wr (rp_pickT rfl rfl (u := .bool true) rfl) ?_; simp only [N]
      refine wpList_nil ?_
      refine ⟨rfl, ⟨_, _, _, _, _, _, _, _, _, _, _, _, _, _, _, _, _, _, _, _, _, _, _, _, _, _, _, true, (by simp_all [fits]), rfl⟩, H⟩
   clear H
   rintro _ w12 ⟨u42, u43, u44, u45, u46, u47, u48, u49, u50, u51, u52, u53, u54, u55, u56, u57, u58, u59, u60, u61, u62, u63, u64, u65, u66, u67, u68, _, rfl, rfl⟩ H
   refine wp_cond_split rfl (fun hc3 => ?_) (fun hc3 => ?_)
   · --T 3
    refine wp_region_lit ?_; refine wr (rp_fieldAddr rfl Tryz.underlying32 rfl 0 rfl sz5 rfl 0 rfl) ?_; simp only [N]
    refine wr (rp_load1e H 1 rfl rfl rfl Tryz.underlying5 rfl 0 rfl (by first | omega | simp [LN, enc_length, putAt_length, localF_length] <;> omega)) ?_; simp only [N]
    refine wr (rp_fieldAddr rfl Tryz.underlying58 rfl 9 rfl sz5 rfl 9 rfl) ?_; simp only [N]
    refine wr (rp_load1 H 2 rfl rfl rfl Tryz.underlying5 rfl (v := bv i.skip) rfl) ?_; simp only [N]
    refine wr (rp_u8_add rfl (t.getD 0 0) i.skip rfl rfl) ?_; simp only [N]
    refine wr (rp_fieldAddr rfl Tryz.underlying32 rfl 0 rfl sz5 rfl 0 rfl) ?_; simp only [N]
    refine wl_store1e H 1 rfl rfl rfl rfl ((t.getD 0 0) + i.skip) rfl sz5 0 rfl (by first | omega | simp [LN, enc_length, putAt_length, localF_length] <;> omega) ?_
    clear H; intro w13 H; simp only [M] at H
    simp only [N]
    refine wpList_nil ?_
    refine wsr ?_
    refine wr (rp_fieldAddr rfl Tryz.underlying32 rfl 0 rfl sz5 rfl 0 rfl) ?_; simp only [N]
    refine wr (rp_load1e H 1 rfl rfl rfl Tryz.underlying5 rfl 0 rfl (by first | omega | simp [LN, enc_length, putAt_length, localF_length] <;> omega)) ?_; simp only [N]
    refine wr (rp_u8_add rfl ((t.set 0 ((t.getD 0 0) + i.skip)).getD 0 0) (1 : UInt8) rfl rfl) ?_; simp only [N]
    refine wr (rp_fieldAddr rfl Tryz.underlying32 rfl 0 rfl sz5 rfl 0 rfl) ?_; simp only [N]
    refine wl_store1e H 1 rfl rfl rfl rfl (((t.set 0 ((t.getD 0 0) + i.skip)).getD 0 0) + (1 : UInt8)) rfl sz5 0 rfl (by first | omega | simp [LN, enc_length, putAt_length, localF_length] <;> omega) ?_
    clear H; intro w14 H; simp only [M] at H
    simp only [N]
    refine wpList_nil ?_
    refine wsr ?_
    refine wr (rp_loadWe H 1 rfl rfl rfl Tryz.underlying32 rfl (by first | exact sz32 | (rw [sz32]; congr 1; first | omega | simp [LN, enc_length, putAt_length, localF_length] <;> omega)) rfl) ?_; simp only [N]
    refine wl_storeW H 0 rfl rfl rfl rfl (vs := (enc ((t.set 0 ((t.getD 0 0) + i.skip)).set 0 (((t.set 0 ((t.getD 0 0) + i.skip)).getD 0 0) + (1 : UInt8)))).toArray) rfl (fun v hv => enc_one v (by simpa using hv)) (by first | (rw [sz32]; congr 1; done) | (rw [sz32]; congr 1; first | omega | simp [LN, enc_length, putAt_length, localF_length] <;> omega)) (by first | omega | simp [LN, enc_length, putAt_length, localF_length] <;> omega) ?_
    clear H; intro w15 H; simp only [M] at H
    simp only [N]
    refine wasg (.bool true) ?_; simp only [N]
    refine wpList_nil ?_
    refine wp_ret ?_
    try simp only [Exit.inBlock, Exit.then]
    refine bodyPost_ret (results2 rfl (rv_agg H 0 rfl rfl Tryz.underlying32 rfl (by first | exact sz32 | (rw [sz32]; congr 1; first | omega | simp [LN, enc_length, putAt_length, localF_length] <;> omega))) (rv_tmp rfl)) rfl ?_
    exact ⟨by simp_all [localF], H.ext⟩
   · --F 3
    refine wp_skip ?_
    refine wsr ?_
    refine wr (rp_fieldAddr rfl Tryz.underlying32 rfl 0 rfl sz5 rfl 0 rfl) ?_; simp only [N]
    refine wr (rp_load1e H 1 rfl rfl rfl Tryz.underlying5 rfl 0 rfl (by first | omega | simp [LN, enc_length, putAt_length, localF_length] <;> omega)) ?_; simp only [N]
    refine wr (rp_u8_add rfl (t.getD 0 0) (1 : UInt8) rfl rfl) ?_; simp only [N]
    refine wr (rp_fieldAddr rfl Tryz.underlying32 rfl 0 rfl sz5 rfl 0 rfl) ?_; simp only [N]
    refine wl_store1e H 1 rfl rfl rfl rfl ((t.getD 0 0) + (1 : UInt8)) rfl sz5 0 rfl (by first | omega | simp [LN, enc_length, putAt_length, localF_length] <;> omega) ?_
    clear H; intro w16 H; simp only [M] at H
    simp only [N]
    refine wpList_nil ?_
    refine wsr ?_
    refine wr (rp_loadWe H 1 rfl rfl rfl Tryz.underlying32 rfl (by first | exact sz32 | (rw [sz32]; congr 1; first | omega | simp [LN, enc_length, putAt_length, localF_length] <;> omega)) rfl) ?_; simp only [N]
    refine wl_storeW H 0 rfl rfl rfl rfl (vs := (enc (t.set 0 ((t.getD 0 0) + (1 : UInt8)))).toArray) rfl (fun v hv => enc_one v (by simpa using hv)) (by first | (rw [sz32]; congr 1; done) | (rw [sz32]; congr 1; first | omega | simp [LN, enc_length, putAt_length, localF_length] <;> omega)) (by first | omega | simp [LN, enc_length, putAt_length, localF_length] <;> omega) ?_
    clear H; intro w17 H; simp only [M] at H
    simp only [N]
    refine wasg (.bool true) ?_; simp only [N]
    refine wpList_nil ?_
    refine wp_ret ?_
    try simp only [Exit.inBlock, Exit.then]
    refine bodyPost_ret (results2 rfl (rv_agg H 0 rfl rfl Tryz.underlying32 rfl (by first | exact sz32 | (rw [sz32]; congr 1; first | omega | simp [LN, enc_length, putAt_length, localF_length] <;> omega))) (rv_tmp rfl)) rfl ?_
    exact ⟨by simp_all [localF], H.ext⟩
  · --F 2
   have hc2N : (i.op).toNat ≠ 8 := u8_ne hc2
   refine wsr ?_
   refine wr (rp_u8_eql rfl i.op (7 : UInt8) rfl rfl) ?_; simp only [N]
   refine wasg (.bool (i.op == (7 : UInt8))) ?_; simp only [N]
   refine wpList_nil ?_
   refine wp_cond_split rfl (fun hc4 => ?_) (fun hc4 => ?_)
   · --T 4
    have hc4N : (i.op).toNat = 7 := u8_eq hc4
    refine wp_skip ?_
    refine wsr ?_
    refine wr (rp_fieldAddr rfl Tryz.underlying32 rfl 0 rfl sz5 rfl 0 rfl) ?_; simp only [N]
    refine wr (rp_load1e H 1 rfl rfl rfl Tryz.underlying5 rfl 0 rfl (by first | omega | simp [LN, enc_length, putAt_length, localF_length] <;> omega)) ?_; simp only [N]
    refine wr (rp_u8_add rfl (t.getD 0 0) (1 : UInt8) rfl rfl) ?_; simp only [N]
    refine wr (rp_fieldAddr rfl Tryz.underlying32 rfl 0 rfl sz5 rfl 0 rfl) ?_; simp only [N]
    refine wl_store1e H 1 rfl rfl rfl rfl ((t.getD 0 0) + (1 : UInt8)) rfl sz5 0 rfl (by first | omega | simp [LN, enc_length, putAt_length, localF_length] <;> omega) ?_
    clear H; intro w18 H; simp only [M] at H
    simp only [N]
    refine wpList_nil ?_
    refine wsr ?_
    refine wr (rp_loadWe H 1 rfl rfl rfl Tryz.underlying32 rfl (by first | exact sz32 | (rw [sz32]; congr 1; first | omega | simp [LN, enc_length, putAt_length, localF_length] <;> omega)) rfl) ?_; simp only [N]
    refine wl_storeW H 0 rfl rfl rfl rfl (vs := (enc (t.set 0 ((t.getD 0 0) + (1 : UInt8)))).toArray) rfl (fun v hv => enc_one v (by simpa using hv)) (by first | (rw [sz32]; congr 1; done) | (rw [sz32]; congr 1; first | omega | simp [LN, enc_length, putAt_length, localF_length] <;> omega)) (by first | omega | simp [LN, enc_length, putAt_length, localF_length] <;> omega) ?_
    clear H; intro w19 H; simp only [M] at H
    simp only [N]
    refine wasg (.bool true) ?_; simp only [N]
    refine wpList_nil ?_
    refine wp_ret ?_
    try simp only [Exit.inBlock, Exit.then]
    refine bodyPost_ret (results2 rfl (rv_agg H 0 rfl rfl Tryz.underlying32 rfl (by first | exact sz32 | (rw [sz32]; congr 1; first | omega | simp [LN, enc_length, putAt_length, localF_length] <;> omega))) (rv_tmp rfl)) rfl ?_
    exact ⟨by simp_all [localF], H.ext⟩
   · --F 4
    have hc4N : (i.op).toNat ≠ 7 := u8_ne hc4
    refine wsr ?_
    refine wr (rp_loadWe H 1 rfl rfl rfl Tryz.underlying32 rfl (by first | exact sz32 | (rw [sz32]; congr 1; first | omega | simp [LN, enc_length, putAt_length, localF_length] <;> omega)) rfl) ?_; simp only [N]
    refine wl_storeW H 0 rfl rfl rfl rfl (vs := (enc t).toArray) rfl (fun v hv => enc_one v (by simpa using hv)) (by first | (rw [sz32]; congr 1; done) | (rw [sz32]; congr 1; first | omega | simp [LN, enc_length, putAt_length, localF_length] <;> omega)) (by first | omega | simp [LN, enc_length, putAt_length, localF_length] <;> omega) ?_
    clear H; intro w20 H; simp only [M] at H
    simp only [N]
    refine wasg (.bool false) ?_; simp only [N]
    refine wpList_nil ?_
    refine wp_ret ?_
    try simp only [Exit.inBlock, Exit.then]
    refine bodyPost_ret (results2 rfl (rv_agg H 0 rfl rfl Tryz.underlying32 rfl (by first | exact sz32 | (rw [sz32]; congr 1; first | omega | simp [LN, enc_length, putAt_length, localF_length] <;> omega))) (rv_tmp rfl)) rfl ?_
    exact ⟨by simp_all [localF], H.ext⟩

end Go.Proofs.YtimonjemjhecoaaGreatDoor
