/- Walks, printed by a program of this repository (wip/tool). -/
import Derived.Test.YtpnaooajmdildaaGreatDoorLB
namespace Go.Proofs.YtpnaooajmdildaaGreatDoor
open Go.RowKit
open Go
attribute [local irreducible] wpList wpQuiet wpX Code.wp
set_option maxHeartbeats 1000000
set_option maxRecDepth 100000
set_option linter.unusedSimpArgs false
set_option linter.unusedVariables false

structure FnOver where
  fn : UInt8
  over : Bool
  deriving DecidableEq, Inhabited
def FnOver.cells (c : FnOver) : List Value := [bv c.fn, .bool c.over]
theorem FnOver.cells_one (c : FnOver) : ∀ v ∈ c.cells.toArray.toList, v.oneCell' = true := by
  simp [FnOver.cells, Value.oneCell']
theorem FnOver.cells_n (x : FnOver) : x.cells.length = 2 ∧ 0 < 2 := by simp [FnOver.cells]

def regF (n : UInt8) : Arg :=
  (⟨true, n⟩ : Arg)


theorem regF_spec (n : UInt8) (w : World) :
    Calls Tryz.prog 16 #[bv n] w fun e w' => e = .returned (.agg (((regF n)).cells).toArray) ∧ Ext w w' := by
 have H := Own.start w
 go_enter Tryz.func16, Tryz.ntmps16
 refine wp_seq ?_
 refine wp_region_lit ?_
 refine wl_alloc H rfl rfl zv50 ?_
 clear H; intro b1 w1 hnb1 H; dsimp only [Value.cells] at H
 simp only [N]
 refine wpList_nil ?_
 refine wp_seq ?_
 refine wp_region_lit ?_
 refine wl_run rfl (rp_move rfl (v := bv n) rfl) ?_
 simp only [N]
 refine wl_run rfl (rp_build rfl (vs := [(0, .bool true), (1, bv n)]) rfl (cs := #[.bool true, bv n]) (by kernel_rfl)) ?_
 simp only [N]
 refine wl_storeW H 0 rfl rfl rfl rfl (vs := #[.bool true, bv n]) rfl (by simp [Value.oneCell']) (by first | exact sz50 | (rw [sz50]; congr 1; first | omega | (simp [-List.reduceReplicate]; done) | (simp [-List.reduceReplicate]; omega) | (simp [*, -List.reduceReplicate]; done) | (simp [*, -List.reduceReplicate]; omega))) (by first | rfl | first | omega | (simp [-List.reduceReplicate]; done) | (simp [-List.reduceReplicate]; omega) | (simp [*, -List.reduceReplicate]; done) | (simp [*, -List.reduceReplicate]; omega)) ?_
 clear H; intro w2 H; simp only [M] at H
 simp only [N]
 refine wpList_nil ?_
 refine wp_ret ?_
 try simp only [Exit.inBlock, Exit.then, cutP]
 refine bodyPost_ret (results1 rfl (rv_agg H 0 rfl rfl Tryz.underlying50 rfl (by first | exact sz50 | (rw [sz50]; congr 1; first | omega | (simp [-List.reduceReplicate]; done) | (simp [-List.reduceReplicate]; omega) | (simp [*, -List.reduceReplicate]; done) | (simp [*, -List.reduceReplicate]; omega))))) rfl ?_
 have hF : (regF n) = (⟨true, n⟩ : Arg) := rfl
 rw [hF]
 exact ⟨rfl, H.ext⟩

def sumsF_q1 (b4 b5 b7 b6 : Nat) (a : UInt8) (b : UInt8) (c : UInt8) : Prog := ⟨(⟨#[102]⟩ : ByteArray), (⟨some ⟨b4, 0, none⟩, 1, [(⟨#[120]⟩ : ByteArray)]⟩ : Sl ByteArray), (⟨some ⟨b5, 0, none⟩, 1, [a]⟩ : Sl UInt8), (⟨some ⟨b7, 0, none⟩, 1, [(⟨some ⟨b6, 0, none⟩, 3, [(⟨(5 : UInt8), (0 : UInt8), (0 : UInt8), ⟨false, b⟩, ⟨false, (0 : UInt8)⟩, (0 : UInt8), (0 : UInt8), (0 : UInt8)⟩ : Ins), (⟨(4 : UInt8), (1 : UInt8), (0 : UInt8), ⟨false, c⟩, ⟨false, (0 : UInt8)⟩, (0 : UInt8), (0 : UInt8), (0 : UInt8)⟩ : Ins), (⟨(6 : UInt8), (2 : UInt8), (0 : UInt8), ⟨false, b⟩, ⟨false, a⟩, (0 : UInt8), (0 : UInt8), (0 : UInt8)⟩ : Ins)]⟩ : Sl Ins)]⟩ : Sl (Sl Ins)), (3 : UInt8), .mk (0 : UInt8) (0 : UInt8) (0 : UInt8) (0 : UInt8) none 0 []⟩
def sumsF_v138 (a : UInt8) (b : UInt8) (c : UInt8) (skip : UInt8) (a124 : Nat) (ra : Nat → Bool) (v138 : List UInt8 × Bool) : Bool :=
  bif ((((!v138.2) || (!(decide (((v138.1.drop (1)).take 8) = [a, b, c, (0 : UInt8), (0 : UInt8), (0 : UInt8), (0 : UInt8), (0 : UInt8)])))) || (((v138.1.getD (0) 0) == (((skip % (10 : UInt8)) + (1 : UInt8)) + (1 : UInt8))) != (([(⟨(4 : UInt8), (a == b)⟩ : FnOver), (⟨(5 : UInt8), (a != b)⟩ : FnOver), (⟨(6 : UInt8), (decide (a < b))⟩ : FnOver)] : List FnOver).getD (a124) default).over)) || ((!(([(⟨(4 : UInt8), (a == b)⟩ : FnOver), (⟨(5 : UInt8), (a != b)⟩ : FnOver), (⟨(6 : UInt8), (decide (a < b))⟩ : FnOver)] : List FnOver).getD (a124) default).over) && ((v138.1.getD (0) 0) != (1 : UInt8)))) then false else (ra (a124 + 1))
def sumsF_a (a : UInt8) (b : UInt8) (c : UInt8) (skip : UInt8) (xra : FnOver) (ra : Nat → Bool) : Nat → Bool := fun s_ => match s_ with | a124 => sumsF_v138 a b c skip a124 ra (localF (⟨(8 : UInt8), (0 : UInt8), (0 : UInt8), ⟨(regF (0 : UInt8)).reg, (regF (0 : UInt8)).n⟩, ⟨(regF (1 : UInt8)).reg, (regF (1 : UInt8)).n⟩, xra.fn, (0 : UInt8), ((skip % (10 : UInt8)) + (1 : UInt8))⟩ : Ins) ([(0 : UInt8), a, b, c, (0 : UInt8), (0 : UInt8), (0 : UInt8), (0 : UInt8), (0 : UInt8)]))
def sumsF_b (a : UInt8) (b : UInt8) (c : UInt8) (P_ : Prog) (b28 : UInt8) : Bool :=
  ((((((((playF P_ ([])).2.2 == (0 : Int)) && ((((playF P_ ([])).2.1.length : Nat) : Int) == (3 : Int))) && (((playF P_ ([])).1.getD (0) 0) == a)) && ((((playF P_ ([])).1.getD (1) 0) - b) == a)) && (((playF P_ ([])).1.getD (2) 0) == c)) && (((playF P_ ([])).1.getD (32) 0) == b28)) && true)
def sumsF_ak (a : UInt8) (b : UInt8) (c : UInt8) (P_ : Prog) : Nat → Bool := fun s_ => match s_ with | a124 => bif (c == b) then (sumsF_b a b c P_ a) else (sumsF_b a b c P_ c)
def sumsF_v71 (a : UInt8) (b : UInt8) (c : UInt8) (skip : UInt8) (P_ : Prog) (v41 : List UInt8 × Bool) (v51 : List UInt8 × Bool) (v71 : List UInt8 × Bool) : Bool :=
  bif ((((((v51.1.getD (4) 0) != a) || ((v71.1.getD (4) 0) != a)) || ((v51.1.getD (0) 0) != (2 : UInt8))) || ((v41.1.getD (1) 0) != a)) || (((v41.1.getD (4) 0) - b) != a)) then false else (loopL (sumsF_a a b c skip) (sumsF_ak a b c P_) ([(⟨(4 : UInt8), (a == b)⟩ : FnOver), (⟨(5 : UInt8), (a != b)⟩ : FnOver), (⟨(6 : UInt8), (decide (a < b))⟩ : FnOver)] : List FnOver) 0)
def sumsF_v61 (a : UInt8) (b : UInt8) (c : UInt8) (skip : UInt8) (P_ : Prog) (v41 : List UInt8 × Bool) (v51 : List UInt8 × Bool) (v61 : List UInt8 × Bool) : Bool :=
  sumsF_v71 a b c skip P_ v41 v51 (localF (⟨(3 : UInt8), (3 : UInt8), (0 : UInt8), ⟨(regF (3 : UInt8)).reg, (regF (3 : UInt8)).n⟩, ⟨(regF (1 : UInt8)).reg, (regF (1 : UInt8)).n⟩, (3 : UInt8), (0 : UInt8), (0 : UInt8)⟩ : Ins) v61.1)
def sumsF_v51 (a : UInt8) (b : UInt8) (c : UInt8) (skip : UInt8) (P_ : Prog) (v41 : List UInt8 × Bool) (v51 : List UInt8 × Bool) : Bool :=
  sumsF_v61 a b c skip P_ v41 v51 (localF (⟨(3 : UInt8), (3 : UInt8), (0 : UInt8), ⟨(regF (0 : UInt8)).reg, (regF (0 : UInt8)).n⟩, ⟨(regF (1 : UInt8)).reg, (regF (1 : UInt8)).n⟩, (3 : UInt8), (0 : UInt8), (0 : UInt8)⟩ : Ins) ([(0 : UInt8), a, b, c, (0 : UInt8), (0 : UInt8), (0 : UInt8), (0 : UInt8), (0 : UInt8)]))
def sumsF_v41 (a : UInt8) (b : UInt8) (c : UInt8) (skip : UInt8) (P_ : Prog) (v41 : List UInt8 × Bool) : Bool :=
  sumsF_v51 a b c skip P_ v41 (localF (⟨(3 : UInt8), (3 : UInt8), (0 : UInt8), ⟨(regF (3 : UInt8)).reg, (regF (3 : UInt8)).n⟩, ⟨(regF (1 : UInt8)).reg, (regF (1 : UInt8)).n⟩, (2 : UInt8), (0 : UInt8), (0 : UInt8)⟩ : Ins) v41.1)
def sumsF (a : UInt8) (b : UInt8) (c : UInt8) (skip : UInt8) (P_ : Prog) : Bool :=
  sumsF_v41 a b c skip P_ (localF (⟨(3 : UInt8), (3 : UInt8), (0 : UInt8), ⟨(regF (0 : UInt8)).reg, (regF (0 : UInt8)).n⟩, ⟨(regF (1 : UInt8)).reg, (regF (1 : UInt8)).n⟩, (1 : UInt8), (0 : UInt8), (0 : UInt8)⟩ : Ins) ([(0 : UInt8), a, b, c, (0 : UInt8), (0 : UInt8), (0 : UInt8), (0 : UInt8), (0 : UInt8)]))


theorem sumsF_spec (a : UInt8) (b : UInt8) (c : UInt8) (skip : UInt8) (P_ : Prog) (hP : P_ = (sumsF_q1 0 0 0 0 a b c)) (w : World) (hg_ : (Glob) w) :
    Calls Tryz.prog 4 #[bv a, bv b, bv c, bv skip] w fun e w' => e = .returned (.bool ((sumsF a b c skip P_))) ∧ Ext w w' := by
 have H := Own.start_ro w [Glob] (List.forall_mem_cons.2 ⟨fun w' hw => hg_.keep hw, fun _ h => by cases h⟩)
 go_enter Tryz.func4, Tryz.ntmps4
 refine wp_seq ?_
 refine wp_region_lit ?_
 refine wl_run rfl (rp_assign rfl (v := .bool false) rfl) ?_
 simp only [N]
 refine wpList_nil ?_
 refine wp_seq ?_
 refine wp_region_lit ?_
 refine wl_run rfl (rp_move rfl (v := bv a) rfl) ?_
 simp only [N]
 refine wl_run rfl (rp_move rfl (v := bv b) rfl) ?_
 simp only [N]
 refine wl_run rfl (rp_move rfl (v := bv c) rfl) ?_
 simp only [N]
 refine wl_run rfl (rp_build rfl (vs := [(0, bv a), (1, bv b), (2, bv c)]) rfl (cs := #[bv a, bv b, bv c, bv (0 : UInt8), bv (0 : UInt8), bv (0 : UInt8), bv (0 : UInt8), bv (0 : UInt8)]) (by kernel_rfl)) ?_
 simp only [N]
 refine wl_run rfl (rp_build rfl (vs := [(1, .agg #[bv a, bv b, bv c, bv (0 : UInt8), bv (0 : UInt8), bv (0 : UInt8), bv (0 : UInt8), bv (0 : UInt8)])]) rfl (cs := #[bv (0 : UInt8), bv a, bv b, bv c, bv (0 : UInt8), bv (0 : UInt8), bv (0 : UInt8), bv (0 : UInt8), bv (0 : UInt8)]) (by kernel_rfl)) ?_
 simp only [N]
 refine wl_alloc H rfl rfl zv32 ?_
 clear H; intro b1 w1 hnb1 H; dsimp only [Value.cells] at H
 simp only [N]
 replace H : Own w [] [Glob] [.blk b1 (.cells (enc (List.replicate 9 (0 : UInt8))).toArray 32 (0, 0))] _ := H
 refine wl_storeW H 0 rfl rfl rfl rfl (vs := #[bv (0 : UInt8), bv a, bv b, bv c, bv (0 : UInt8), bv (0 : UInt8), bv (0 : UInt8), bv (0 : UInt8), bv (0 : UInt8)]) rfl (by simp [Value.oneCell']) (by first | exact sz32 | (rw [sz32]; congr 1; first | omega | (simp [-List.reduceReplicate]; done) | (simp [-List.reduceReplicate]; omega) | (simp [*, -List.reduceReplicate]; done) | (simp [*, -List.reduceReplicate]; omega))) (by first | rfl | first | omega | (simp [-List.reduceReplicate]; done) | (simp [-List.reduceReplicate]; omega) | (simp [*, -List.reduceReplicate]; done) | (simp [*, -List.reduceReplicate]; omega)) ?_
 clear H; intro w2 H; simp only [M] at H
 simp only [N]
 refine wpList_nil ?_
 refine wp_seq ?_
 refine wp_region_lit ?_
 refine wl_run rfl (rp_assign rfl (v := .func (.func 16) #[] #[]) rfl) ?_
 simp only [N]
 refine wpList_nil ?_
 refine wp_seq ?_
 refine wp_region_mix 13 H (by kernel_rfl) ?_
 refine wxl_take 0 rfl rfl (by kernel_rfl) (by kernel_rfl) (by kernel_rfl) (by kernel_rfl) (by kernel_rfl) (xy_run rfl (fun w H => rp_move rfl (v := .func (.func 16) #[] #[]) rfl)) ?_
 simp only [N]
 refine wxl_take 1 rfl rfl (by kernel_rfl) (by kernel_rfl) (by kernel_rfl) (by kernel_rfl) (by kernel_rfl) (xy_call rfl (rc_fn rfl Tryz.func16 (by kernel_rfl) rfl) (fun w H => regF_spec (0 : UInt8) _ )) ?_
 simp only [N]
 refine wxl_take 2 rfl rfl (by kernel_rfl) (by kernel_rfl) (by kernel_rfl) (by kernel_rfl) (by kernel_rfl) (xy_run rfl (fun w H => rp_move rfl (v := .func (.func 16) #[] #[]) rfl)) ?_
 simp only [N]
 refine wxl_take 3 rfl rfl (by kernel_rfl) (by kernel_rfl) (by kernel_rfl) (by kernel_rfl) (by kernel_rfl) (xy_call rfl (rc_fn rfl Tryz.func16 (by kernel_rfl) rfl) (fun w H => regF_spec (1 : UInt8) _ )) ?_
 simp only [N]
 refine wxl_take 4 rfl rfl (by kernel_rfl) (by kernel_rfl) (by kernel_rfl) (by kernel_rfl) (by kernel_rfl) (xy_run rfl (fun w H => rp_build rfl (vs := [(0, bv (3 : UInt8)), (1, bv (3 : UInt8)), (3, .agg ((regF (0 : UInt8)).cells).toArray), (4, .agg ((regF (1 : UInt8)).cells).toArray), (5, bv (1 : UInt8))]) rfl (cs := #[bv (3 : UInt8), bv (3 : UInt8), bv (0 : UInt8), .bool (regF (0 : UInt8)).reg, bv (regF (0 : UInt8)).n, .bool (regF (1 : UInt8)).reg, bv (regF (1 : UInt8)).n, bv (1 : UInt8), bv (0 : UInt8), bv (0 : UInt8)]) (by kernel_rfl))) ?_
 simp only [N]
 refine wxl_take 5 rfl rfl (by kernel_rfl) (by kernel_rfl) (by kernel_rfl) (by kernel_rfl) (by kernel_rfl) (xy_run rfl (fun w H => rp_loadN H 0 rfl rfl rfl Tryz.underlying32 rfl sz32 (Nat.le_of_ble_eq_true rfl) (cs' := [bv (0 : UInt8), bv a, bv b, bv c, bv (0 : UInt8), bv (0 : UInt8), bv (0 : UInt8), bv (0 : UInt8), bv (0 : UInt8)]) rfl)) ?_
 simp only [N]
 refine wxl_take 6 rfl rfl (by kernel_rfl) (by kernel_rfl) (by kernel_rfl) (by kernel_rfl) (by kernel_rfl) (xy_call rfl (rc_go Tryz.func17 (by kernel_rfl) rfl) (fun w H => local_spec (⟨(3 : UInt8), (3 : UInt8), (0 : UInt8), ⟨(regF (0 : UInt8)).reg, (regF (0 : UInt8)).n⟩, ⟨(regF (1 : UInt8)).reg, (regF (1 : UInt8)).n⟩, (1 : UInt8), (0 : UInt8), (0 : UInt8)⟩ : Ins) ([(0 : UInt8), a, b, c, (0 : UInt8), (0 : UInt8), (0 : UInt8), (0 : UInt8), (0 : UInt8)]) (by first | omega | (simp [-List.reduceReplicate]; done) | (simp [-List.reduceReplicate]; omega) | (simp [*, -List.reduceReplicate]; done) | (simp [*, -List.reduceReplicate]; omega)) _)) ?_
 simp only [N]
 generalize hv41 : (localF (⟨(3 : UInt8), (3 : UInt8), (0 : UInt8), ⟨(regF (0 : UInt8)).reg, (regF (0 : UInt8)).n⟩, ⟨(regF (1 : UInt8)).reg, (regF (1 : UInt8)).n⟩, (1 : UInt8), (0 : UInt8), (0 : UInt8)⟩ : Ins) ([(0 : UInt8), a, b, c, (0 : UInt8), (0 : UInt8), (0 : UInt8), (0 : UInt8), (0 : UInt8)])) = v41
 have hFv41 : (sumsF a b c skip P_) = sumsF_v41 a b c skip P_ v41 := by first | (rw [← hv41]; exact rfl) | exact rfl
 have hlv41 : (v41.1).length = 9 := by rw [← hv41]; first | omega | (simp [-List.reduceReplicate]; done) | (simp [-List.reduceReplicate]; omega) | (simp [*, -List.reduceReplicate]; done) | (simp [*, -List.reduceReplicate]; omega)
 refine wxl_take 7 rfl rfl (by kernel_rfl) (by kernel_rfl) (by kernel_rfl) (by kernel_rfl) (by kernel_rfl) (xy_run rfl (fun w H => rp_move rfl (v := .tuple #[.agg (enc v41.1).toArray, .bool v41.2]) rfl)) ?_
 simp only [N]
 refine wxl_take 8 rfl rfl (by kernel_rfl) (by kernel_rfl) (by kernel_rfl) (by kernel_rfl) (by kernel_rfl) (xy_run rfl (fun w H => rp_extract rfl rfl (v := .agg (enc v41.1).toArray) rfl)) ?_
 simp only [N]
 refine wxl_take 9 rfl rfl (by kernel_rfl) (by kernel_rfl) (by kernel_rfl) (by kernel_rfl) (by kernel_rfl) (xy_run rfl (fun w H => rp_extract rfl rfl (v := .bool v41.2) rfl)) ?_
 simp only [N]
 refine wxl_alloc 10 rfl rfl (by kernel_rfl) rfl (xa_alloc rfl zv32) ?_
 intro bd11
 simp only [N, M, Value.cells]
 refine wxl_store 11 0 rfl rfl (by kernel_rfl) rfl rfl (xs_whole rfl rfl (vs := (enc v41.1).toArray) rfl (fun v hv => enc_one v (by simpa using hv)) (by first | exact sz32 | (rw [sz32]; congr 1; first | omega | (simp [-List.reduceReplicate]; done) | (simp [-List.reduceReplicate]; omega) | (simp [*, -List.reduceReplicate]; done) | (simp [*, -List.reduceReplicate]; omega))) (by first | rfl | first | omega | (simp [-List.reduceReplicate]; done) | (simp [-List.reduceReplicate]; omega) | (simp [*, -List.reduceReplicate]; done) | (simp [*, -List.reduceReplicate]; omega))) ?_
 simp only [N, M, Value.cells]
 refine wxl_take 12 rfl rfl (by kernel_rfl) (by kernel_rfl) (by kernel_rfl) (by kernel_rfl) (by kernel_rfl) (xy_run rfl (fun w H => rp_assign rfl (v := .bool v41.2) rfl)) ?_
 simp only [N]
 refine wpX_done (by kernel_rfl) ?_ _
 clear H; intro w3 H; simp only [List.cons_append, List.nil_append] at H
 refine wp_seq ?_
 refine wp_region_mix 13 H (by kernel_rfl) ?_
 refine wxl_take 0 rfl rfl (by kernel_rfl) (by kernel_rfl) (by kernel_rfl) (by kernel_rfl) (by kernel_rfl) (xy_run rfl (fun w H => rp_move rfl (v := .func (.func 16) #[] #[]) rfl)) ?_
 simp only [N]
 refine wxl_take 1 rfl rfl (by kernel_rfl) (by kernel_rfl) (by kernel_rfl) (by kernel_rfl) (by kernel_rfl) (xy_call rfl (rc_fn rfl Tryz.func16 (by kernel_rfl) rfl) (fun w H => regF_spec (3 : UInt8) _ )) ?_
 simp only [N]
 refine wxl_take 2 rfl rfl (by kernel_rfl) (by kernel_rfl) (by kernel_rfl) (by kernel_rfl) (by kernel_rfl) (xy_run rfl (fun w H => rp_move rfl (v := .func (.func 16) #[] #[]) rfl)) ?_
 simp only [N]
 refine wxl_take 3 rfl rfl (by kernel_rfl) (by kernel_rfl) (by kernel_rfl) (by kernel_rfl) (by kernel_rfl) (xy_call rfl (rc_fn rfl Tryz.func16 (by kernel_rfl) rfl) (fun w H => regF_spec (1 : UInt8) _ )) ?_
 simp only [N]
 refine wxl_take 4 rfl rfl (by kernel_rfl) (by kernel_rfl) (by kernel_rfl) (by kernel_rfl) (by kernel_rfl) (xy_run rfl (fun w H => rp_build rfl (vs := [(0, bv (3 : UInt8)), (1, bv (3 : UInt8)), (3, .agg ((regF (3 : UInt8)).cells).toArray), (4, .agg ((regF (1 : UInt8)).cells).toArray), (5, bv (2 : UInt8))]) rfl (cs := #[bv (3 : UInt8), bv (3 : UInt8), bv (0 : UInt8), .bool (regF (3 : UInt8)).reg, bv (regF (3 : UInt8)).n, .bool (regF (1 : UInt8)).reg, bv (regF (1 : UInt8)).n, bv (2 : UInt8), bv (0 : UInt8), bv (0 : UInt8)]) (by kernel_rfl))) ?_
 simp only [N]
 refine wxl_take 5 rfl rfl (by kernel_rfl) (by kernel_rfl) (by kernel_rfl) (by kernel_rfl) (by kernel_rfl) (xy_run rfl (fun w H => rp_loadWe H 0 rfl rfl rfl Tryz.underlying32 rfl (by first | exact sz32 | (rw [sz32]; congr 1; first | omega | (simp [-List.reduceReplicate]; done) | (simp [-List.reduceReplicate]; omega) | (simp [*, -List.reduceReplicate]; done) | (simp [*, -List.reduceReplicate]; omega))) rfl)) ?_
 simp only [N]
 refine wxl_take 6 rfl rfl (by kernel_rfl) (by kernel_rfl) (by kernel_rfl) (by kernel_rfl) (by kernel_rfl) (xy_call rfl (rc_go Tryz.func17 (by kernel_rfl) rfl) (fun w H => local_spec (⟨(3 : UInt8), (3 : UInt8), (0 : UInt8), ⟨(regF (3 : UInt8)).reg, (regF (3 : UInt8)).n⟩, ⟨(regF (1 : UInt8)).reg, (regF (1 : UInt8)).n⟩, (2 : UInt8), (0 : UInt8), (0 : UInt8)⟩ : Ins) v41.1 (by first | omega | (simp [-List.reduceReplicate]; done) | (simp [-List.reduceReplicate]; omega) | (simp [*, -List.reduceReplicate]; done) | (simp [*, -List.reduceReplicate]; omega)) _)) ?_
 simp only [N]
 generalize hv51 : (localF (⟨(3 : UInt8), (3 : UInt8), (0 : UInt8), ⟨(regF (3 : UInt8)).reg, (regF (3 : UInt8)).n⟩, ⟨(regF (1 : UInt8)).reg, (regF (1 : UInt8)).n⟩, (2 : UInt8), (0 : UInt8), (0 : UInt8)⟩ : Ins) v41.1) = v51
 have hFv51 : (sumsF a b c skip P_) = sumsF_v51 a b c skip P_ v41 v51 := by first | (rw [← hv51]; exact hFv41) | exact hFv41
 have hlv51 : (v51.1).length = 9 := by rw [← hv51]; first | omega | (simp [-List.reduceReplicate]; done) | (simp [-List.reduceReplicate]; omega) | (simp [*, -List.reduceReplicate]; done) | (simp [*, -List.reduceReplicate]; omega)
 refine wxl_take 7 rfl rfl (by kernel_rfl) (by kernel_rfl) (by kernel_rfl) (by kernel_rfl) (by kernel_rfl) (xy_run rfl (fun w H => rp_move rfl (v := .tuple #[.agg (enc v51.1).toArray, .bool v51.2]) rfl)) ?_
 simp only [N]
 refine wxl_take 8 rfl rfl (by kernel_rfl) (by kernel_rfl) (by kernel_rfl) (by kernel_rfl) (by kernel_rfl) (xy_run rfl (fun w H => rp_extract rfl rfl (v := .agg (enc v51.1).toArray) rfl)) ?_
 simp only [N]
 refine wxl_take 9 rfl rfl (by kernel_rfl) (by kernel_rfl) (by kernel_rfl) (by kernel_rfl) (by kernel_rfl) (xy_run rfl (fun w H => rp_extract rfl rfl (v := .bool v51.2) rfl)) ?_
 simp only [N]
 refine wxl_alloc 10 rfl rfl (by kernel_rfl) rfl (xa_alloc rfl zv32) ?_
 intro bd13
 simp only [N, M, Value.cells]
 refine wxl_store 11 0 rfl rfl (by kernel_rfl) rfl rfl (xs_whole rfl rfl (vs := (enc v51.1).toArray) rfl (fun v hv => enc_one v (by simpa using hv)) (by first | exact sz32 | (rw [sz32]; congr 1; first | omega | (simp [-List.reduceReplicate]; done) | (simp [-List.reduceReplicate]; omega) | (simp [*, -List.reduceReplicate]; done) | (simp [*, -List.reduceReplicate]; omega))) (by first | rfl | first | omega | (simp [-List.reduceReplicate]; done) | (simp [-List.reduceReplicate]; omega) | (simp [*, -List.reduceReplicate]; done) | (simp [*, -List.reduceReplicate]; omega))) ?_
 simp only [N, M, Value.cells]
 refine wxl_take 12 rfl rfl (by kernel_rfl) (by kernel_rfl) (by kernel_rfl) (by kernel_rfl) (by kernel_rfl) (xy_run rfl (fun w H => rp_assign rfl (v := .bool v51.2) rfl)) ?_
 simp only [N]
 refine wpX_done (by kernel_rfl) ?_ _
 clear H; intro w4 H; simp only [List.cons_append, List.nil_append] at H
 refine wp_seq ?_
 refine wp_region_mix 13 H (by kernel_rfl) ?_
 refine wxl_take 0 rfl rfl (by kernel_rfl) (by kernel_rfl) (by kernel_rfl) (by kernel_rfl) (by kernel_rfl) (xy_run rfl (fun w H => rp_move rfl (v := .func (.func 16) #[] #[]) rfl)) ?_
 simp only [N]
 refine wxl_take 1 rfl rfl (by kernel_rfl) (by kernel_rfl) (by kernel_rfl) (by kernel_rfl) (by kernel_rfl) (xy_call rfl (rc_fn rfl Tryz.func16 (by kernel_rfl) rfl) (fun w H => regF_spec (0 : UInt8) _ )) ?_
 simp only [N]
 refine wxl_take 2 rfl rfl (by kernel_rfl) (by kernel_rfl) (by kernel_rfl) (by kernel_rfl) (by kernel_rfl) (xy_run rfl (fun w H => rp_move rfl (v := .func (.func 16) #[] #[]) rfl)) ?_
 simp only [N]
 refine wxl_take 3 rfl rfl (by kernel_rfl) (by kernel_rfl) (by kernel_rfl) (by kernel_rfl) (by kernel_rfl) (xy_call rfl (rc_fn rfl Tryz.func16 (by kernel_rfl) rfl) (fun w H => regF_spec (1 : UInt8) _ )) ?_
 simp only [N]
 refine wxl_take 4 rfl rfl (by kernel_rfl) (by kernel_rfl) (by kernel_rfl) (by kernel_rfl) (by kernel_rfl) (xy_run rfl (fun w H => rp_build rfl (vs := [(0, bv (3 : UInt8)), (1, bv (3 : UInt8)), (3, .agg ((regF (0 : UInt8)).cells).toArray), (4, .agg ((regF (1 : UInt8)).cells).toArray), (5, bv (3 : UInt8))]) rfl (cs := #[bv (3 : UInt8), bv (3 : UInt8), bv (0 : UInt8), .bool (regF (0 : UInt8)).reg, bv (regF (0 : UInt8)).n, .bool (regF (1 : UInt8)).reg, bv (regF (1 : UInt8)).n, bv (3 : UInt8), bv (0 : UInt8), bv (0 : UInt8)]) (by kernel_rfl))) ?_
 simp only [N]
 refine wxl_take 5 rfl rfl (by kernel_rfl) (by kernel_rfl) (by kernel_rfl) (by kernel_rfl) (by kernel_rfl) (xy_run rfl (fun w H => rp_loadN H 2 rfl rfl rfl Tryz.underlying32 rfl sz32 (Nat.le_of_ble_eq_true rfl) (cs' := [bv (0 : UInt8), bv a, bv b, bv c, bv (0 : UInt8), bv (0 : UInt8), bv (0 : UInt8), bv (0 : UInt8), bv (0 : UInt8)]) rfl)) ?_
 simp only [N]
 refine wxl_take 6 rfl rfl (by kernel_rfl) (by kernel_rfl) (by kernel_rfl) (by kernel_rfl) (by kernel_rfl) (xy_call rfl (rc_go Tryz.func17 (by kernel_rfl) rfl) (fun w H => local_spec (⟨(3 : UInt8), (3 : UInt8), (0 : UInt8), ⟨(regF (0 : UInt8)).reg, (regF (0 : UInt8)).n⟩, ⟨(regF (1 : UInt8)).reg, (regF (1 : UInt8)).n⟩, (3 : UInt8), (0 : UInt8), (0 : UInt8)⟩ : Ins) ([(0 : UInt8), a, b, c, (0 : UInt8), (0 : UInt8), (0 : UInt8), (0 : UInt8), (0 : UInt8)]) (by first | omega | (simp [-List.reduceReplicate]; done) | (simp [-List.reduceReplicate]; omega) | (simp [*, -List.reduceReplicate]; done) | (simp [*, -List.reduceReplicate]; omega)) _)) ?_
 simp only [N]
 generalize hv61 : (localF (⟨(3 : UInt8), (3 : UInt8), (0 : UInt8), ⟨(regF (0 : UInt8)).reg, (regF (0 : UInt8)).n⟩, ⟨(regF (1 : UInt8)).reg, (regF (1 : UInt8)).n⟩, (3 : UInt8), (0 : UInt8), (0 : UInt8)⟩ : Ins) ([(0 : UInt8), a, b, c, (0 : UInt8), (0 : UInt8), (0 : UInt8), (0 : UInt8), (0 : UInt8)])) = v61
 have hFv61 : (sumsF a b c skip P_) = sumsF_v61 a b c skip P_ v41 v51 v61 := by first | (rw [← hv61]; exact hFv51) | exact hFv51
 have hlv61 : (v61.1).length = 9 := by rw [← hv61]; first | omega | (simp [-List.reduceReplicate]; done) | (simp [-List.reduceReplicate]; omega) | (simp [*, -List.reduceReplicate]; done) | (simp [*, -List.reduceReplicate]; omega)
 refine wxl_take 7 rfl rfl (by kernel_rfl) (by kernel_rfl) (by kernel_rfl) (by kernel_rfl) (by kernel_rfl) (xy_run rfl (fun w H => rp_move rfl (v := .tuple #[.agg (enc v61.1).toArray, .bool v61.2]) rfl)) ?_
 simp only [N]
 refine wxl_take 8 rfl rfl (by kernel_rfl) (by kernel_rfl) (by kernel_rfl) (by kernel_rfl) (by kernel_rfl) (xy_run rfl (fun w H => rp_extract rfl rfl (v := .agg (enc v61.1).toArray) rfl)) ?_
 simp only [N]
 refine wxl_take 9 rfl rfl (by kernel_rfl) (by kernel_rfl) (by kernel_rfl) (by kernel_rfl) (by kernel_rfl) (xy_run rfl (fun w H => rp_extract rfl rfl (v := .bool v61.2) rfl)) ?_
 simp only [N]
 refine wxl_alloc 10 rfl rfl (by kernel_rfl) rfl (xa_alloc rfl zv32) ?_
 intro bd15
 simp only [N, M, Value.cells]
 refine wxl_store 11 0 rfl rfl (by kernel_rfl) rfl rfl (xs_whole rfl rfl (vs := (enc v61.1).toArray) rfl (fun v hv => enc_one v (by simpa using hv)) (by first | exact sz32 | (rw [sz32]; congr 1; first | omega | (simp [-List.reduceReplicate]; done) | (simp [-List.reduceReplicate]; omega) | (simp [*, -List.reduceReplicate]; done) | (simp [*, -List.reduceReplicate]; omega))) (by first | rfl | first | omega | (simp [-List.reduceReplicate]; done) | (simp [-List.reduceReplicate]; omega) | (simp [*, -List.reduceReplicate]; done) | (simp [*, -List.reduceReplicate]; omega))) ?_
 simp only [N, M, Value.cells]
 refine wxl_take 12 rfl rfl (by kernel_rfl) (by kernel_rfl) (by kernel_rfl) (by kernel_rfl) (by kernel_rfl) (xy_run rfl (fun w H => rp_assign rfl (v := .bool v61.2) rfl)) ?_
 simp only [N]
 refine wpX_done (by kernel_rfl) ?_ _
 clear H; intro w5 H; simp only [List.cons_append, List.nil_append] at H
 refine wp_seq ?_
 refine wp_region_mix 13 H (by kernel_rfl) ?_
 refine wxl_take 0 rfl rfl (by kernel_rfl) (by kernel_rfl) (by kernel_rfl) (by kernel_rfl) (by kernel_rfl) (xy_run rfl (fun w H => rp_move rfl (v := .func (.func 16) #[] #[]) rfl)) ?_
 simp only [N]
 refine wxl_take 1 rfl rfl (by kernel_rfl) (by kernel_rfl) (by kernel_rfl) (by kernel_rfl) (by kernel_rfl) (xy_call rfl (rc_fn rfl Tryz.func16 (by kernel_rfl) rfl) (fun w H => regF_spec (3 : UInt8) _ )) ?_
 simp only [N]
 refine wxl_take 2 rfl rfl (by kernel_rfl) (by kernel_rfl) (by kernel_rfl) (by kernel_rfl) (by kernel_rfl) (xy_run rfl (fun w H => rp_move rfl (v := .func (.func 16) #[] #[]) rfl)) ?_
 simp only [N]
 refine wxl_take 3 rfl rfl (by kernel_rfl) (by kernel_rfl) (by kernel_rfl) (by kernel_rfl) (by kernel_rfl) (xy_call rfl (rc_fn rfl Tryz.func16 (by kernel_rfl) rfl) (fun w H => regF_spec (1 : UInt8) _ )) ?_
 simp only [N]
 refine wxl_take 4 rfl rfl (by kernel_rfl) (by kernel_rfl) (by kernel_rfl) (by kernel_rfl) (by kernel_rfl) (xy_run rfl (fun w H => rp_build rfl (vs := [(0, bv (3 : UInt8)), (1, bv (3 : UInt8)), (3, .agg ((regF (3 : UInt8)).cells).toArray), (4, .agg ((regF (1 : UInt8)).cells).toArray), (5, bv (3 : UInt8))]) rfl (cs := #[bv (3 : UInt8), bv (3 : UInt8), bv (0 : UInt8), .bool (regF (3 : UInt8)).reg, bv (regF (3 : UInt8)).n, .bool (regF (1 : UInt8)).reg, bv (regF (1 : UInt8)).n, bv (3 : UInt8), bv (0 : UInt8), bv (0 : UInt8)]) (by kernel_rfl))) ?_
 simp only [N]
 refine wxl_take 5 rfl rfl (by kernel_rfl) (by kernel_rfl) (by kernel_rfl) (by kernel_rfl) (by kernel_rfl) (xy_run rfl (fun w H => rp_loadWe H 0 rfl rfl rfl Tryz.underlying32 rfl (by first | exact sz32 | (rw [sz32]; congr 1; first | omega | (simp [-List.reduceReplicate]; done) | (simp [-List.reduceReplicate]; omega) | (simp [*, -List.reduceReplicate]; done) | (simp [*, -List.reduceReplicate]; omega))) rfl)) ?_
 simp only [N]
 refine wxl_take 6 rfl rfl (by kernel_rfl) (by kernel_rfl) (by kernel_rfl) (by kernel_rfl) (by kernel_rfl) (xy_call rfl (rc_go Tryz.func17 (by kernel_rfl) rfl) (fun w H => local_spec (⟨(3 : UInt8), (3 : UInt8), (0 : UInt8), ⟨(regF (3 : UInt8)).reg, (regF (3 : UInt8)).n⟩, ⟨(regF (1 : UInt8)).reg, (regF (1 : UInt8)).n⟩, (3 : UInt8), (0 : UInt8), (0 : UInt8)⟩ : Ins) v61.1 (by first | omega | (simp [-List.reduceReplicate]; done) | (simp [-List.reduceReplicate]; omega) | (simp [*, -List.reduceReplicate]; done) | (simp [*, -List.reduceReplicate]; omega)) _)) ?_
 simp only [N]
 generalize hv71 : (localF (⟨(3 : UInt8), (3 : UInt8), (0 : UInt8), ⟨(regF (3 : UInt8)).reg, (regF (3 : UInt8)).n⟩, ⟨(regF (1 : UInt8)).reg, (regF (1 : UInt8)).n⟩, (3 : UInt8), (0 : UInt8), (0 : UInt8)⟩ : Ins) v61.1) = v71
 have hFv71 : (sumsF a b c skip P_) = sumsF_v71 a b c skip P_ v41 v51 v71 := by first | (rw [← hv71]; exact hFv61) | exact hFv61
 have hlv71 : (v71.1).length = 9 := by rw [← hv71]; first | omega | (simp [-List.reduceReplicate]; done) | (simp [-List.reduceReplicate]; omega) | (simp [*, -List.reduceReplicate]; done) | (simp [*, -List.reduceReplicate]; omega)
 refine wxl_take 7 rfl rfl (by kernel_rfl) (by kernel_rfl) (by kernel_rfl) (by kernel_rfl) (by kernel_rfl) (xy_run rfl (fun w H => rp_move rfl (v := .tuple #[.agg (enc v71.1).toArray, .bool v71.2]) rfl)) ?_
 simp only [N]
 refine wxl_take 8 rfl rfl (by kernel_rfl) (by kernel_rfl) (by kernel_rfl) (by kernel_rfl) (by kernel_rfl) (xy_run rfl (fun w H => rp_extract rfl rfl (v := .agg (enc v71.1).toArray) rfl)) ?_
 simp only [N]
 refine wxl_take 9 rfl rfl (by kernel_rfl) (by kernel_rfl) (by kernel_rfl) (by kernel_rfl) (by kernel_rfl) (xy_run rfl (fun w H => rp_extract rfl rfl (v := .bool v71.2) rfl)) ?_
 simp only [N]
 refine wxl_alloc 10 rfl rfl (by kernel_rfl) rfl (xa_alloc rfl zv32) ?_
 intro bd17
 simp only [N, M, Value.cells]
 refine wxl_store 11 0 rfl rfl (by kernel_rfl) rfl rfl (xs_whole rfl rfl (vs := (enc v71.1).toArray) rfl (fun v hv => enc_one v (by simpa using hv)) (by first | exact sz32 | (rw [sz32]; congr 1; first | omega | (simp [-List.reduceReplicate]; done) | (simp [-List.reduceReplicate]; omega) | (simp [*, -List.reduceReplicate]; done) | (simp [*, -List.reduceReplicate]; omega))) (by first | rfl | first | omega | (simp [-List.reduceReplicate]; done) | (simp [-List.reduceReplicate]; omega) | (simp [*, -List.reduceReplicate]; done) | (simp [*, -List.reduceReplicate]; omega))) ?_
 simp only [N, M, Value.cells]
 refine wxl_take 12 rfl rfl (by kernel_rfl) (by kernel_rfl) (by kernel_rfl) (by kernel_rfl) (by kernel_rfl) (xy_run rfl (fun w H => rp_assign rfl (v := .bool v71.2) rfl)) ?_
 simp only [N]
 refine wpX_done (by kernel_rfl) ?_ _
 clear H; intro w6 H; simp only [List.cons_append, List.nil_append] at H
 refine wp_seq ?_
 refine wp_seq ?_
 refine wp_region_lit ?_
 refine wl_run rfl (rp_fieldAddr rfl Tryz.underlying32 rfl 1 rfl sz30 rfl (1) rfl) ?_
 simp only [N]
 refine wl_run rfl (rp_indexAddr_arr rfl Tryz.underlying30 sz5 rfl 3 rfl (by omega) (4) (by omega)) ?_
 simp only [N]
 refine wl_run rfl (rp_load1e H 2 rfl rfl rfl Tryz.underlying5 rfl (4) rfl (by first | omega | (simp [-List.reduceReplicate]; done) | (simp [-List.reduceReplicate]; omega) | (simp [*, -List.reduceReplicate]; done) | (simp [*, -List.reduceReplicate]; omega))) ?_
 simp only [N]
 refine wl_run rfl (rp_move rfl (v := bv a) rfl) ?_
 simp only [N]
 refine wl_run rfl (rp_u8_neq rfl (v51.1.getD (4) 0) a rfl rfl) ?_
 simp only [N]
 refine wl_run rfl (rp_move rfl (v := .bool ((v51.1.getD (4) 0) != a)) rfl) ?_
 simp only [N]
 refine wl_g (wn_f rfl rfl) (v := .pointer (some ⟨bd17, 1, none⟩)) (fun hg => rp_fieldAddr rfl Tryz.underlying32 rfl 1 rfl sz30 rfl (1) rfl) ?_
 simp only [N]
 refine wl_g (wn_f rfl rfl) (v := .pointer (some ⟨bd17, 4, none⟩)) (fun hg => by have x2 : ((v51.1.getD (4) 0)).toNat = (a).toNat := u8_eq2 (notT hg); exact (by simp only [gv_t hg]; exact rp_indexAddr_arr rfl Tryz.underlying30 sz5 rfl 3 rfl (by omega) (4) (by omega))) ?_
 simp only [N]
 refine wl_g (wn_f rfl rfl) (v := bv (v71.1.getD (4) 0)) (fun hg => by have x3 : ((v51.1.getD (4) 0)).toNat = (a).toNat := u8_eq2 (notT hg); exact (by simp only [gv_t hg]; exact rp_load1e H 0 rfl rfl rfl Tryz.underlying5 rfl (4) rfl (by first | omega | (simp [-List.reduceReplicate]; done) | (simp [-List.reduceReplicate]; omega) | (simp [*, -List.reduceReplicate]; done) | (simp [*, -List.reduceReplicate]; omega)))) ?_
 simp only [N]
 refine wl_g (wn_f rfl rfl) (v := bv a) (fun hg => rp_move rfl (v := bv a) rfl) ?_
 simp only [N]
 refine wl_g (wn_f rfl rfl) (v := .bool ((v71.1.getD (4) 0) != a)) (fun hg => by have x5 : ((v51.1.getD (4) 0)).toNat = (a).toNat := u8_eq2 (notT hg); exact (by simp only [gv_t hg]; exact rp_u8_neq rfl (v71.1.getD (4) 0) a rfl rfl)) ?_
 simp only [N]
 refine wl_run rfl (rp_pickO rfl (p := ((v51.1.getD (4) 0) != a)) (q := ((v71.1.getD (4) 0) != a)) rfl rfl rfl) ?_
 simp only [N]
 refine wl_run rfl (rp_move rfl (v := .bool (((v51.1.getD (4) 0) != a) || ((v71.1.getD (4) 0) != a))) rfl) ?_
 simp only [N]
 refine wl_g (wn_f rfl rfl) (v := .pointer (some ⟨bd13, 0, none⟩)) (fun hg => rp_fieldAddr rfl Tryz.underlying32 rfl 0 rfl sz5 rfl (0) rfl) ?_
 simp only [N]
 refine wl_g (wn_f rfl rfl) (v := bv (v51.1.getD (0) 0)) (fun hg => by have x8 : ((v51.1.getD (4) 0)).toNat = (a).toNat := u8_eq2 (orl (notT hg)); have x9 : ((v71.1.getD (4) 0)).toNat = (a).toNat := u8_eq2 (orr (notT hg)); exact (by simp only [gv_t hg]; exact rp_load1e H 2 rfl rfl rfl Tryz.underlying5 rfl (0) rfl (by first | omega | (simp [-List.reduceReplicate]; done) | (simp [-List.reduceReplicate]; omega) | (simp [*, -List.reduceReplicate]; done) | (simp [*, -List.reduceReplicate]; omega)))) ?_
 simp only [N]
 refine wl_g (wn_f rfl rfl) (v := .bool ((v51.1.getD (0) 0) != (2 : UInt8))) (fun hg => by have x10 : ((v51.1.getD (4) 0)).toNat = (a).toNat := u8_eq2 (orl (notT hg)); have x11 : ((v71.1.getD (4) 0)).toNat = (a).toNat := u8_eq2 (orr (notT hg)); exact (by simp only [gv_t hg]; exact rp_u8_neq rfl (v51.1.getD (0) 0) (2 : UInt8) rfl rfl)) ?_
 simp only [N]
 refine wl_run rfl (rp_pickO rfl (p := (((v51.1.getD (4) 0) != a) || ((v71.1.getD (4) 0) != a))) (q := ((v51.1.getD (0) 0) != (2 : UInt8))) rfl rfl rfl) ?_
 simp only [N]
 refine wl_run rfl (rp_move rfl (v := .bool ((((v51.1.getD (4) 0) != a) || ((v71.1.getD (4) 0) != a)) || ((v51.1.getD (0) 0) != (2 : UInt8)))) rfl) ?_
 simp only [N]
 refine wl_g (wn_f rfl rfl) (v := .pointer (some ⟨bd11, 1, none⟩)) (fun hg => rp_fieldAddr rfl Tryz.underlying32 rfl 1 rfl sz30 rfl (1) rfl) ?_
 simp only [N]
 refine wl_g (wn_f rfl rfl) (v := .pointer (some ⟨bd11, 1, none⟩)) (fun hg => by have x15 : ((v51.1.getD (4) 0)).toNat = (a).toNat := u8_eq2 (orl (orl (notT hg))); have x16 : ((v71.1.getD (4) 0)).toNat = (a).toNat := u8_eq2 (orr (orl (notT hg))); have x17 : ((v51.1.getD (0) 0)).toNat = 2 := u8_eq2 (orr (notT hg)); exact (by simp only [gv_t hg]; exact rp_indexAddr_arr rfl Tryz.underlying30 sz5 rfl 0 rfl (by omega) (1) (by omega))) ?_
 simp only [N]
 refine wl_g (wn_f rfl rfl) (v := bv (v41.1.getD (1) 0)) (fun hg => by have x18 : ((v51.1.getD (4) 0)).toNat = (a).toNat := u8_eq2 (orl (orl (notT hg))); have x19 : ((v71.1.getD (4) 0)).toNat = (a).toNat := u8_eq2 (orr (orl (notT hg))); have x20 : ((v51.1.getD (0) 0)).toNat = 2 := u8_eq2 (orr (notT hg)); exact (by simp only [gv_t hg]; exact rp_load1e H 3 rfl rfl rfl Tryz.underlying5 rfl (1) rfl (by first | omega | (simp [-List.reduceReplicate]; done) | (simp [-List.reduceReplicate]; omega) | (simp [*, -List.reduceReplicate]; done) | (simp [*, -List.reduceReplicate]; omega)))) ?_
 simp only [N]
 refine wl_g (wn_f rfl rfl) (v := bv a) (fun hg => rp_move rfl (v := bv a) rfl) ?_
 simp only [N]
 refine wl_g (wn_f rfl rfl) (v := .bool ((v41.1.getD (1) 0) != a)) (fun hg => by have x24 : ((v51.1.getD (4) 0)).toNat = (a).toNat := u8_eq2 (orl (orl (notT hg))); have x25 : ((v71.1.getD (4) 0)).toNat = (a).toNat := u8_eq2 (orr (orl (notT hg))); have x26 : ((v51.1.getD (0) 0)).toNat = 2 := u8_eq2 (orr (notT hg)); exact (by simp only [gv_t hg]; exact rp_u8_neq rfl (v41.1.getD (1) 0) a rfl rfl)) ?_
 simp only [N]
 refine wl_run rfl (rp_pickO rfl (p := ((((v51.1.getD (4) 0) != a) || ((v71.1.getD (4) 0) != a)) || ((v51.1.getD (0) 0) != (2 : UInt8)))) (q := ((v41.1.getD (1) 0) != a)) rfl rfl rfl) ?_
 simp only [N]
 refine wl_run rfl (rp_move rfl (v := .bool (((((v51.1.getD (4) 0) != a) || ((v71.1.getD (4) 0) != a)) || ((v51.1.getD (0) 0) != (2 : UInt8))) || ((v41.1.getD (1) 0) != a))) rfl) ?_
 simp only [N]
 refine wl_g (wn_f rfl rfl) (v := .pointer (some ⟨bd11, 1, none⟩)) (fun hg => rp_fieldAddr rfl Tryz.underlying32 rfl 1 rfl sz30 rfl (1) rfl) ?_
 simp only [N]
 refine wl_g (wn_f rfl rfl) (v := .pointer (some ⟨bd11, 4, none⟩)) (fun hg => by have x31 : ((v51.1.getD (4) 0)).toNat = (a).toNat := u8_eq2 (orl (orl (orl (notT hg)))); have x32 : ((v71.1.getD (4) 0)).toNat = (a).toNat := u8_eq2 (orr (orl (orl (notT hg)))); have x33 : ((v51.1.getD (0) 0)).toNat = 2 := u8_eq2 (orr (orl (notT hg))); have x34 : ((v41.1.getD (1) 0)).toNat = (a).toNat := u8_eq2 (orr (notT hg)); exact (by simp only [gv_t hg]; exact rp_indexAddr_arr rfl Tryz.underlying30 sz5 rfl 3 rfl (by omega) (4) (by omega))) ?_
 simp only [N]
 refine wl_g (wn_f rfl rfl) (v := bv (v41.1.getD (4) 0)) (fun hg => by have x35 : ((v51.1.getD (4) 0)).toNat = (a).toNat := u8_eq2 (orl (orl (orl (notT hg)))); have x36 : ((v71.1.getD (4) 0)).toNat = (a).toNat := u8_eq2 (orr (orl (orl (notT hg)))); have x37 : ((v51.1.getD (0) 0)).toNat = 2 := u8_eq2 (orr (orl (notT hg))); have x38 : ((v41.1.getD (1) 0)).toNat = (a).toNat := u8_eq2 (orr (notT hg)); exact (by simp only [gv_t hg]; exact rp_load1e H 3 rfl rfl rfl Tryz.underlying5 rfl (4) rfl (by first | omega | (simp [-List.reduceReplicate]; done) | (simp [-List.reduceReplicate]; omega) | (simp [*, -List.reduceReplicate]; done) | (simp [*, -List.reduceReplicate]; omega)))) ?_
 simp only [N]
 refine wl_g (wn_f rfl rfl) (v := bv b) (fun hg => rp_move rfl (v := bv b) rfl) ?_
 simp only [N]
 refine wl_g (wn_f rfl rfl) (v := bv ((v41.1.getD (4) 0) - b)) (fun hg => by have x43 : ((v51.1.getD (4) 0)).toNat = (a).toNat := u8_eq2 (orl (orl (orl (notT hg)))); have x44 : ((v71.1.getD (4) 0)).toNat = (a).toNat := u8_eq2 (orr (orl (orl (notT hg)))); have x45 : ((v51.1.getD (0) 0)).toNat = 2 := u8_eq2 (orr (orl (notT hg))); have x46 : ((v41.1.getD (1) 0)).toNat = (a).toNat := u8_eq2 (orr (notT hg)); exact (by simp only [gv_t hg]; exact rp_u8_sub rfl (v41.1.getD (4) 0) b rfl rfl)) ?_
 simp only [N]
 refine wl_g (wn_f rfl rfl) (v := bv a) (fun hg => rp_move rfl (v := bv a) rfl) ?_
 simp only [N]
 refine wl_g (wn_f rfl rfl) (v := .bool (((v41.1.getD (4) 0) - b) != a)) (fun hg => by have x51 : ((v51.1.getD (4) 0)).toNat = (a).toNat := u8_eq2 (orl (orl (orl (notT hg)))); have x52 : ((v71.1.getD (4) 0)).toNat = (a).toNat := u8_eq2 (orr (orl (orl (notT hg)))); have x53 : ((v51.1.getD (0) 0)).toNat = 2 := u8_eq2 (orr (orl (notT hg))); have x54 : ((v41.1.getD (1) 0)).toNat = (a).toNat := u8_eq2 (orr (notT hg)); exact (by simp only [gv_t hg]; exact rp_u8_neq rfl ((v41.1.getD (4) 0) - b) a rfl rfl)) ?_
 simp only [N]
 refine wl_run rfl (rp_pickO rfl (p := (((((v51.1.getD (4) 0) != a) || ((v71.1.getD (4) 0) != a)) || ((v51.1.getD (0) 0) != (2 : UInt8))) || ((v41.1.getD (1) 0) != a))) (q := (((v41.1.getD (4) 0) - b) != a)) rfl rfl rfl) ?_
 simp only [N]
 refine wpList_nil ?_
 refine wp_cond_split rfl (fun hc1 => ?_) (fun hc1 => ?_)
 · --T 1
  refine wp_seq ?_
  refine wp_region_lit ?_
  refine wl_run rfl (rp_assign rfl (v := .bool false) rfl) ?_
  simp only [N]
  refine wpList_nil ?_
  refine wp_ret ?_
  try simp only [Exit.inBlock, Exit.then, cutP]
  refine bodyPost_ret (results1 rfl (rv_tmp rfl)) rfl ?_
  have hF : (sumsF a b c skip P_) = false := (hFv71).trans (bt hc1)
  rw [hF]
  exact ⟨rfl, H.ext⟩
 · --F 1
  have hc1N55 : ((v51.1.getD (4) 0)).toNat = (a).toNat := u8_eq2 (orl (orl (orl (orl hc1))))
  have hc1N56 : ((v71.1.getD (4) 0)).toNat = (a).toNat := u8_eq2 (orr (orl (orl (orl hc1))))
  have hc1N57 : ((v51.1.getD (0) 0)).toNat = 2 := u8_eq2 (orr (orl (orl hc1)))
  have hc1N58 : ((v41.1.getD (1) 0)).toNat = (a).toNat := u8_eq2 (orr (orl hc1))
  have hc1N59 : (((v41.1.getD (4) 0) - b)).toNat = (a).toNat := u8_eq2 (orr hc1)
  refine wp_skip ?_
  refine wp_seq ?_
  refine wp_region_lit ?_
  refine wl_run rfl (rp_move rfl (v := bv skip) rfl) ?_
  simp only [N]
  have hrem108 : ((skip % (10 : UInt8))).toNat < ((10 : UInt8)).toNat := by rw [UInt8.toNat_mod]; exact Nat.mod_lt _ (by decide)
  have hremk108 : ((10 : UInt8)).toNat = 10 := rfl
  refine wl_run rfl (rp_u8_rem rfl skip (10 : UInt8) rfl rfl (by decide)) ?_
  simp only [N]
  refine wl_run rfl (rp_u8_add rfl (skip % (10 : UInt8)) (1 : UInt8) rfl rfl) ?_
  simp only [N]
  refine wl_run rfl (rp_assign rfl (v := bv ((skip % (10 : UInt8)) + (1 : UInt8))) rfl) ?_
  simp only [N]
  refine wpList_nil ?_
  refine wp_seq ?_
  refine wp_seq ?_
  refine wp_region_lit ?_
  refine wl_run rfl (rp_move rfl (v := bv a) rfl) ?_
  simp only [N]
  refine wl_run rfl (rp_move rfl (v := bv b) rfl) ?_
  simp only [N]
  refine wl_run rfl (rp_u8_eql rfl a b rfl rfl) ?_
  simp only [N]
  refine wl_run rfl (rp_build rfl (vs := [(0, bv (4 : UInt8)), (1, .bool (a == b))]) rfl (cs := #[bv (4 : UInt8), .bool (a == b)]) (by kernel_rfl)) ?_
  simp only [N]
  refine wl_run rfl (rp_move rfl (v := bv a) rfl) ?_
  simp only [N]
  refine wl_run rfl (rp_move rfl (v := bv b) rfl) ?_
  simp only [N]
  refine wl_run rfl (rp_u8_neq rfl a b rfl rfl) ?_
  simp only [N]
  refine wl_run rfl (rp_build rfl (vs := [(0, bv (5 : UInt8)), (1, .bool (a != b))]) rfl (cs := #[bv (5 : UInt8), .bool (a != b)]) (by kernel_rfl)) ?_
  simp only [N]
  refine wl_run rfl (rp_move rfl (v := bv a) rfl) ?_
  simp only [N]
  refine wl_run rfl (rp_move rfl (v := bv b) rfl) ?_
  simp only [N]
  refine wl_run rfl (rp_u8_lss rfl a b rfl rfl) ?_
  simp only [N]
  refine wl_run rfl (rp_build rfl (vs := [(0, bv (6 : UInt8)), (1, .bool (decide (a < b)))]) rfl (cs := #[bv (6 : UInt8), .bool (decide (a < b))]) (by kernel_rfl)) ?_
  simp only [N]
  refine wl_xallocF H rfl (xa_buildSlice rfl Tryz.underlying62 sz61 zv61 (by decide) (by decide) (vs := [(0, .agg #[bv (4 : UInt8), .bool (a == b)]), (1, .agg #[bv (5 : UInt8), .bool (a != b)]), (2, .agg #[bv (6 : UInt8), .bool (decide (a < b))])]) rfl (cs := #[bv (4 : UInt8), .bool (a == b), bv (5 : UInt8), .bool (a != b), bv (6 : UInt8), .bool (decide (a < b))]) (by kernel_rfl)) ?_
  clear H; intro b2 w7 hnb2 H
  simp only [N]
  refine wl_run rfl (rp_len_slice Tryz.underlying62 rfl) ?_
  simp only [N]
  refine wl_run rfl (rp_move rfl (v := iv (0 : Int)) rfl) ?_
  simp only [N]
  refine wpList_nil ?_
  refine wp_block ?_
  have hla : ([(⟨(4 : UInt8), (a == b)⟩ : FnOver), (⟨(5 : UInt8), (a != b)⟩ : FnOver), (⟨(6 : UInt8), (decide (a < b))⟩ : FnOver)] : List FnOver).length = 3 := rfl
  refine wp_loopX (fun m' a' w' => ∃ (a124 : Nat), a' = ⟨#[bv a, bv b, bv c, bv skip, undef, undef, undef, undef, (tq a' 8), .pointer (some ⟨b1, 0, none⟩), .func (.func 16) #[] #[], (tq a' 11), (tq a' 12), (tq a' 13), (tq a' 14), (tq a' 15), (tq a' 16), (tq a' 17), (tq a' 18), bv ((skip % (10 : UInt8)) + (1 : UInt8)), undef, (tq a' 21), (tq a' 22), (tq a' 23), undef, undef, undef, undef, undef, bv a, bv b, bv c, (tq a' 32), (tq a' 33), (tq a' 34), (tq a' 35), (tq a' 36), (tq a' 37), (tq a' 38), (tq a' 39), (tq a' 40), (tq a' 41), (tq a' 42), (tq a' 43), (tq a' 44), (tq a' 45), (tq a' 46), (tq a' 47), (tq a' 48), (tq a' 49), (tq a' 50), (tq a' 51), (tq a' 52), (tq a' 53), (tq a' 54), (tq a' 55), (tq a' 56), (tq a' 57), (tq a' 58), (tq a' 59), (tq a' 60), (tq a' 61), (tq a' 62), (tq a' 63), (tq a' 64), (tq a' 65), (tq a' 66), (tq a' 67), (tq a' 68), (tq a' 69), (tq a' 70), (tq a' 71), (tq a' 72), (tq a' 73), (tq a' 74), (tq a' 75), (tq a' 76), bv a, (tq a' 78), (tq a' 79), (tq a' 80), (tq a' 81), (tq a' 82), (tq a' 83), (tq a' 84), (tq a' 85), (tq a' 86), (tq a' 87), (tq a' 88), (tq a' 89), (tq a' 90), (tq a' 91), (tq a' 92), (tq a' 93), (tq a' 94), (tq a' 95), (tq a' 96), (tq a' 97), (tq a' 98), (tq a' 99), (tq a' 100), (tq a' 101), (tq a' 102), (tq a' 103), (tq a' 104), (tq a' 105), (tq a' 106), bv skip, (tq a' 108), (tq a' 109), bv a, bv b, (tq a' 112), (tq a' 113), bv a, bv b, (tq a' 116), (tq a' 117), bv a, bv b, (tq a' 120), (tq a' 121), .slice (some ⟨b2, 0, none⟩) 3 3, iv ((([(⟨(4 : UInt8), (a == b)⟩ : FnOver), (⟨(5 : UInt8), (a != b)⟩ : FnOver), (⟨(6 : UInt8), (decide (a < b))⟩ : FnOver)] : List FnOver).length : Nat) : Int), iv ((a124 : Nat) : Int), (tq a' 125), (tq a' 126), (tq a' 127), (tq a' 128), (tq a' 129), (tq a' 130), (tq a' 131), (tq a' 132), (tq a' 133), (tq a' 134), (tq a' 135), (tq a' 136), (tq a' 137), (tq a' 138), (tq a' 139), (tq a' 140), (tq a' 141), (tq a' 142), (tq a' 143), (tq a' 144), (tq a' 145), (tq a' 146), (tq a' 147), (tq a' 148), (tq a' 149), (tq a' 150), (tq a' 151), (tq a' 152), (tq a' 153), (tq a' 154), (tq a' 155), (tq a' 156), (tq a' 157), (tq a' 158), (tq a' 159), (tq a' 160), (tq a' 161), (tq a' 162), (tq a' 163), (tq a' 164), (tq a' 165), (tq a' 166), (tq a' 167), (tq a' 168), (tq a' 169), (tq a' 170), undef, undef, undef, undef, undef, undef, undef, undef, undef, undef, undef, undef, undef, undef, undef, undef, undef, undef, undef, undef, undef, undef, undef, undef, undef, undef, undef, undef, undef, undef, undef, undef, undef, undef, undef, undef, undef, undef, undef, undef, undef, undef, undef, undef, undef, undef, undef, undef, undef, undef, undef, undef, undef, undef, undef, undef, undef, undef, undef, undef, undef, undef, undef, undef, undef, undef, undef, undef, undef, undef, undef], []⟩ ∧ Own w [] [fun w => w.heap[b2]? = some (.cells #[bv (4 : UInt8), .bool (a == b), bv (5 : UInt8), .bool (a != b), bv (6 : UInt8), .bool (decide (a < b))] 61 (0, 0)), Glob] [.blk bd17 (.cells (enc v71.1).toArray 32 (0, 0)), .blk bd15 (.cells (enc v61.1).toArray 32 (0, 0)), .blk bd13 (.cells (enc v51.1).toArray 32 (0, 0)), .blk bd11 (.cells (enc v41.1).toArray 32 (0, 0)), .blk b1 (.cells #[bv (0 : UInt8), bv a, bv b, bv c, bv (0 : UInt8), bv (0 : UInt8), bv (0 : UInt8), bv (0 : UInt8), bv (0 : UInt8)] 32 (0, 0))] w' ∧ (a124 ≤ ([(⟨(4 : UInt8), (a == b)⟩ : FnOver), (⟨(5 : UInt8), (a != b)⟩ : FnOver), (⟨(6 : UInt8), (decide (a < b))⟩ : FnOver)] : List FnOver).length) ∧ (sumsF a b c skip P_) = loopL (sumsF_a a b c skip) (sumsF_ak a b c P_) (([(⟨(4 : UInt8), (a == b)⟩ : FnOver), (⟨(5 : UInt8), (a != b)⟩ : FnOver), (⟨(6 : UInt8), (decide (a < b))⟩ : FnOver)] : List FnOver).drop a124) a124 ∧ m' = ([(⟨(4 : UInt8), (a == b)⟩ : FnOver), (⟨(5 : UInt8), (a != b)⟩ : FnOver), (⟨(6 : UInt8), (decide (a < b))⟩ : FnOver)] : List FnOver).length - a124) _ ⟨0, (by kernel_rfl), H, (by omega), (hFv71).trans (bf hc1), rfl⟩ ?_
  clear H
  rintro _ a_ w8 ⟨a124, ha_, H, hia0, hFa, rfl⟩
  obtain ⟨ua, hu_⟩ : ∃ ua : Nat → Value, a_ = ⟨#[bv a, bv b, bv c, bv skip, undef, undef, undef, undef, (ua 8), .pointer (some ⟨b1, 0, none⟩), .func (.func 16) #[] #[], (ua 11), (ua 12), (ua 13), (ua 14), (ua 15), (ua 16), (ua 17), (ua 18), bv ((skip % (10 : UInt8)) + (1 : UInt8)), undef, (ua 21), (ua 22), (ua 23), undef, undef, undef, undef, undef, bv a, bv b, bv c, (ua 32), (ua 33), (ua 34), (ua 35), (ua 36), (ua 37), (ua 38), (ua 39), (ua 40), (ua 41), (ua 42), (ua 43), (ua 44), (ua 45), (ua 46), (ua 47), (ua 48), (ua 49), (ua 50), (ua 51), (ua 52), (ua 53), (ua 54), (ua 55), (ua 56), (ua 57), (ua 58), (ua 59), (ua 60), (ua 61), (ua 62), (ua 63), (ua 64), (ua 65), (ua 66), (ua 67), (ua 68), (ua 69), (ua 70), (ua 71), (ua 72), (ua 73), (ua 74), (ua 75), (ua 76), bv a, (ua 78), (ua 79), (ua 80), (ua 81), (ua 82), (ua 83), (ua 84), (ua 85), (ua 86), (ua 87), (ua 88), (ua 89), (ua 90), (ua 91), (ua 92), (ua 93), (ua 94), (ua 95), (ua 96), (ua 97), (ua 98), (ua 99), (ua 100), (ua 101), (ua 102), (ua 103), (ua 104), (ua 105), (ua 106), bv skip, (ua 108), (ua 109), bv a, bv b, (ua 112), (ua 113), bv a, bv b, (ua 116), (ua 117), bv a, bv b, (ua 120), (ua 121), .slice (some ⟨b2, 0, none⟩) 3 3, iv ((([(⟨(4 : UInt8), (a == b)⟩ : FnOver), (⟨(5 : UInt8), (a != b)⟩ : FnOver), (⟨(6 : UInt8), (decide (a < b))⟩ : FnOver)] : List FnOver).length : Nat) : Int), iv ((a124 : Nat) : Int), (ua 125), (ua 126), (ua 127), (ua 128), (ua 129), (ua 130), (ua 131), (ua 132), (ua 133), (ua 134), (ua 135), (ua 136), (ua 137), (ua 138), (ua 139), (ua 140), (ua 141), (ua 142), (ua 143), (ua 144), (ua 145), (ua 146), (ua 147), (ua 148), (ua 149), (ua 150), (ua 151), (ua 152), (ua 153), (ua 154), (ua 155), (ua 156), (ua 157), (ua 158), (ua 159), (ua 160), (ua 161), (ua 162), (ua 163), (ua 164), (ua 165), (ua 166), (ua 167), (ua 168), (ua 169), (ua 170), undef, undef, undef, undef, undef, undef, undef, undef, undef, undef, undef, undef, undef, undef, undef, undef, undef, undef, undef, undef, undef, undef, undef, undef, undef, undef, undef, undef, undef, undef, undef, undef, undef, undef, undef, undef, undef, undef, undef, undef, undef, undef, undef, undef, undef, undef, undef, undef, undef, undef, undef, undef, undef, undef, undef, undef, undef, undef, undef, undef, undef, undef, undef, undef, undef, undef, undef, undef, undef, undef, undef], []⟩ := ⟨fun n => tq a_ n, ha_⟩
  clear ha_; subst hu_
  refine wp_seq ?_
  refine wp_region_lit ?_
  refine wl_run rfl (rp_int_lss rfl ((a124 : Nat) : Int) ((([(⟨(4 : UInt8), (a == b)⟩ : FnOver), (⟨(5 : UInt8), (a != b)⟩ : FnOver), (⟨(6 : UInt8), (decide (a < b))⟩ : FnOver)] : List FnOver).length : Nat) : Int) rfl rfl) ?_
  simp only [N]
  refine wpList_nil ?_
  refine wp_seq ?_
  refine wp_cond_split rfl (fun hc2 => ?_) (fun hc2 => ?_)
  · --T 2
   have hc2N60 : ((a124 : Nat) : Int) < ((([(⟨(4 : UInt8), (a == b)⟩ : FnOver), (⟨(5 : UInt8), (a != b)⟩ : FnOver), (⟨(6 : UInt8), (decide (a < b))⟩ : FnOver)] : List FnOver).length : Nat) : Int) := (by simpa using hc2)
   obtain ⟨ra, hra⟩ : ∃ r, r = loopL (sumsF_a a b c skip) (sumsF_ak a b c P_) (([(⟨(4 : UInt8), (a == b)⟩ : FnOver), (⟨(5 : UInt8), (a != b)⟩ : FnOver), (⟨(6 : UInt8), (decide (a < b))⟩ : FnOver)] : List FnOver).drop (a124 + 1)) := ⟨_, rfl⟩
   have hFa2 := hFa.trans (loopL_step (show a124 < ([(⟨(4 : UInt8), (a == b)⟩ : FnOver), (⟨(5 : UInt8), (a != b)⟩ : FnOver), (⟨(6 : UInt8), (decide (a < b))⟩ : FnOver)] : List FnOver).length by omega))
   rw [← hra] at hFa2
   refine wp_skip ?_
   refine wp_seq ?_
   refine wp_block ?_
   refine wp_seq ?_
   refine wp_region_lit ?_
   refine wl_run rfl (rp_indexAddr_sl ((slin_blk (H.ro_at 0 rfl) ⟨[], rfl⟩ FnOver.cells_n (Nat.le_of_ble_eq_true rfl))) rfl Tryz.underlying62 sz61 rfl a124 rfl (by show _ < ([(⟨(4 : UInt8), (a == b)⟩ : FnOver), (⟨(5 : UInt8), (a != b)⟩ : FnOver), (⟨(6 : UInt8), (decide (a < b))⟩ : FnOver)] : List FnOver).length; omega)) ?_
   simp only [N]
   refine wl_run rfl (rp_loadN_sl ((slin_blk (H.ro_at 0 rfl) ⟨[], rfl⟩ FnOver.cells_n (Nat.le_of_ble_eq_true rfl))) (a124) (by show _ < ([(⟨(4 : UInt8), (a == b)⟩ : FnOver), (⟨(5 : UInt8), (a != b)⟩ : FnOver), (⟨(6 : UInt8), (decide (a < b))⟩ : FnOver)] : List FnOver).length; omega) rfl Tryz.underlying61 rfl rfl sz61) ?_
   simp only [N]
   refine wl_alloc H rfl rfl zv61 ?_
   clear H; intro b3 w9 hnb3 H; dsimp only [Value.cells] at H
   simp only [N]
   refine wl_storeW H 0 rfl rfl rfl rfl (vs := ((([(⟨(4 : UInt8), (a == b)⟩ : FnOver), (⟨(5 : UInt8), (a != b)⟩ : FnOver), (⟨(6 : UInt8), (decide (a < b))⟩ : FnOver)] : List FnOver).getD (a124) default).cells).toArray) rfl (FnOver.cells_one _) (by first | exact sz61 | (rw [sz61]; congr 1; first | omega | (simp [-List.reduceReplicate]; done) | (simp [-List.reduceReplicate]; omega) | (simp [*, -List.reduceReplicate]; done) | (simp [*, -List.reduceReplicate]; omega))) (by first | rfl | first | omega | (simp [-List.reduceReplicate]; done) | (simp [-List.reduceReplicate]; omega) | (simp [*, -List.reduceReplicate]; done) | (simp [*, -List.reduceReplicate]; omega)) ?_
   clear H; intro w10 H; simp only [M] at H
   simp only [N]
   refine wpList_nil ?_
   refine wp_seq ?_
   refine wp_region_mix 16 H (by kernel_rfl) ?_
   refine wxl_take 0 rfl rfl (by kernel_rfl) (by kernel_rfl) (by kernel_rfl) (by kernel_rfl) (by kernel_rfl) (xy_run rfl (fun w H => rp_move rfl (v := .func (.func 16) #[] #[]) rfl)) ?_
   simp only [N]
   refine wxl_take 1 rfl rfl (by kernel_rfl) (by kernel_rfl) (by kernel_rfl) (by kernel_rfl) (by kernel_rfl) (xy_call rfl (rc_fn rfl Tryz.func16 (by kernel_rfl) rfl) (fun w H => regF_spec (0 : UInt8) _ )) ?_
   simp only [N]
   refine wxl_take 2 rfl rfl (by kernel_rfl) (by kernel_rfl) (by kernel_rfl) (by kernel_rfl) (by kernel_rfl) (xy_run rfl (fun w H => rp_move rfl (v := .func (.func 16) #[] #[]) rfl)) ?_
   simp only [N]
   refine wxl_take 3 rfl rfl (by kernel_rfl) (by kernel_rfl) (by kernel_rfl) (by kernel_rfl) (by kernel_rfl) (xy_call rfl (rc_fn rfl Tryz.func16 (by kernel_rfl) rfl) (fun w H => regF_spec (1 : UInt8) _ )) ?_
   simp only [N]
   refine wxl_take 4 rfl rfl (by kernel_rfl) (by kernel_rfl) (by kernel_rfl) (by kernel_rfl) (by kernel_rfl) (xy_run rfl (fun w H => rp_fieldAddr rfl Tryz.underlying61 rfl 0 rfl sz5 rfl (0) rfl)) ?_
   simp only [N]
   refine wxl_take 5 rfl rfl (by kernel_rfl) (by kernel_rfl) (by kernel_rfl) (by kernel_rfl) (by kernel_rfl) (xy_run rfl (fun w H => rp_load1 H 0 rfl rfl rfl Tryz.underlying5 rfl (v := bv (([(⟨(4 : UInt8), (a == b)⟩ : FnOver), (⟨(5 : UInt8), (a != b)⟩ : FnOver), (⟨(6 : UInt8), (decide (a < b))⟩ : FnOver)] : List FnOver).getD (a124) default).fn) rfl)) ?_
   simp only [N]
   refine wxl_take 6 rfl rfl (by kernel_rfl) (by kernel_rfl) (by kernel_rfl) (by kernel_rfl) (by kernel_rfl) (xy_run rfl (fun w H => rp_move rfl (v := bv ((skip % (10 : UInt8)) + (1 : UInt8))) rfl)) ?_
   simp only [N]
   refine wxl_take 7 rfl rfl (by kernel_rfl) (by kernel_rfl) (by kernel_rfl) (by kernel_rfl) (by kernel_rfl) (xy_run rfl (fun w H => rp_build rfl (vs := [(0, bv (8 : UInt8)), (3, .agg ((regF (0 : UInt8)).cells).toArray), (4, .agg ((regF (1 : UInt8)).cells).toArray), (5, bv (([(⟨(4 : UInt8), (a == b)⟩ : FnOver), (⟨(5 : UInt8), (a != b)⟩ : FnOver), (⟨(6 : UInt8), (decide (a < b))⟩ : FnOver)] : List FnOver).getD (a124) default).fn), (7, bv ((skip % (10 : UInt8)) + (1 : UInt8)))]) rfl (cs := #[bv (8 : UInt8), bv (0 : UInt8), bv (0 : UInt8), .bool (regF (0 : UInt8)).reg, bv (regF (0 : UInt8)).n, .bool (regF (1 : UInt8)).reg, bv (regF (1 : UInt8)).n, bv (([(⟨(4 : UInt8), (a == b)⟩ : FnOver), (⟨(5 : UInt8), (a != b)⟩ : FnOver), (⟨(6 : UInt8), (decide (a < b))⟩ : FnOver)] : List FnOver).getD (a124) default).fn, bv (0 : UInt8), bv ((skip % (10 : UInt8)) + (1 : UInt8))]) (by kernel_rfl))) ?_
   simp only [N]
   refine wxl_take 8 rfl rfl (by kernel_rfl) (by kernel_rfl) (by kernel_rfl) (by kernel_rfl) (by kernel_rfl) (xy_run rfl (fun w H => rp_loadN H 5 rfl rfl rfl Tryz.underlying32 rfl sz32 (Nat.le_of_ble_eq_true rfl) (cs' := [bv (0 : UInt8), bv a, bv b, bv c, bv (0 : UInt8), bv (0 : UInt8), bv (0 : UInt8), bv (0 : UInt8), bv (0 : UInt8)]) rfl)) ?_
   simp only [N]
   refine wxl_take 9 rfl rfl (by kernel_rfl) (by kernel_rfl) (by kernel_rfl) (by kernel_rfl) (by kernel_rfl) (xy_call rfl (rc_go Tryz.func17 (by kernel_rfl) rfl) (fun w H => local_spec (⟨(8 : UInt8), (0 : UInt8), (0 : UInt8), ⟨(regF (0 : UInt8)).reg, (regF (0 : UInt8)).n⟩, ⟨(regF (1 : UInt8)).reg, (regF (1 : UInt8)).n⟩, (([(⟨(4 : UInt8), (a == b)⟩ : FnOver), (⟨(5 : UInt8), (a != b)⟩ : FnOver), (⟨(6 : UInt8), (decide (a < b))⟩ : FnOver)] : List FnOver).getD (a124) default).fn, (0 : UInt8), ((skip % (10 : UInt8)) + (1 : UInt8))⟩ : Ins) ([(0 : UInt8), a, b, c, (0 : UInt8), (0 : UInt8), (0 : UInt8), (0 : UInt8), (0 : UInt8)]) (by first | omega | (simp [-List.reduceReplicate]; done) | (simp [-List.reduceReplicate]; omega) | (simp [*, -List.reduceReplicate]; done) | (simp [*, -List.reduceReplicate]; omega)) _)) ?_
   simp only [N]
   generalize hv138 : (localF (⟨(8 : UInt8), (0 : UInt8), (0 : UInt8), ⟨(regF (0 : UInt8)).reg, (regF (0 : UInt8)).n⟩, ⟨(regF (1 : UInt8)).reg, (regF (1 : UInt8)).n⟩, (([(⟨(4 : UInt8), (a == b)⟩ : FnOver), (⟨(5 : UInt8), (a != b)⟩ : FnOver), (⟨(6 : UInt8), (decide (a < b))⟩ : FnOver)] : List FnOver).getD (a124) default).fn, (0 : UInt8), ((skip % (10 : UInt8)) + (1 : UInt8))⟩ : Ins) ([(0 : UInt8), a, b, c, (0 : UInt8), (0 : UInt8), (0 : UInt8), (0 : UInt8), (0 : UInt8)])) = v138
   have hFv138 : (sumsF a b c skip P_) = sumsF_v138 a b c skip a124 ra v138 := by first | (rw [← hv138]; exact hFa2) | exact hFa2
   have hlv138 : (v138.1).length = 9 := by rw [← hv138]; first | omega | (simp [-List.reduceReplicate]; done) | (simp [-List.reduceReplicate]; omega) | (simp [*, -List.reduceReplicate]; done) | (simp [*, -List.reduceReplicate]; omega)
   refine wxl_take 10 rfl rfl (by kernel_rfl) (by kernel_rfl) (by kernel_rfl) (by kernel_rfl) (by kernel_rfl) (xy_run rfl (fun w H => rp_move rfl (v := .tuple #[.agg (enc v138.1).toArray, .bool v138.2]) rfl)) ?_
   simp only [N]
   refine wxl_take 11 rfl rfl (by kernel_rfl) (by kernel_rfl) (by kernel_rfl) (by kernel_rfl) (by kernel_rfl) (xy_run rfl (fun w H => rp_extract rfl rfl (v := .agg (enc v138.1).toArray) rfl)) ?_
   simp only [N]
   refine wxl_take 12 rfl rfl (by kernel_rfl) (by kernel_rfl) (by kernel_rfl) (by kernel_rfl) (by kernel_rfl) (xy_run rfl (fun w H => rp_extract rfl rfl (v := .bool v138.2) rfl)) ?_
   simp only [N]
   refine wxl_alloc 13 rfl rfl (by kernel_rfl) rfl (xa_alloc rfl zv32) ?_
   intro bd22
   simp only [N, M, Value.cells]
   refine wxl_store 14 0 rfl rfl (by kernel_rfl) rfl rfl (xs_whole rfl rfl (vs := (enc v138.1).toArray) rfl (fun v hv => enc_one v (by simpa using hv)) (by first | exact sz32 | (rw [sz32]; congr 1; first | omega | (simp [-List.reduceReplicate]; done) | (simp [-List.reduceReplicate]; omega) | (simp [*, -List.reduceReplicate]; done) | (simp [*, -List.reduceReplicate]; omega))) (by first | rfl | first | omega | (simp [-List.reduceReplicate]; done) | (simp [-List.reduceReplicate]; omega) | (simp [*, -List.reduceReplicate]; done) | (simp [*, -List.reduceReplicate]; omega))) ?_
   simp only [N, M, Value.cells]
   refine wxl_take 15 rfl rfl (by kernel_rfl) (by kernel_rfl) (by kernel_rfl) (by kernel_rfl) (by kernel_rfl) (xy_run rfl (fun w H => rp_assign rfl (v := .bool v138.2) rfl)) ?_
   simp only [N]
   refine wpX_done (by kernel_rfl) ?_ _
   clear H; intro w11 H; simp only [List.cons_append, List.nil_append] at H
   refine wp_seq ?_
   refine wp_region_lit ?_
   refine wl_run rfl (rp_move rfl (v := .bool v138.2) rfl) ?_
   simp only [N]
   refine wl_run rfl (rp_not rfl v138.2 rfl) ?_
   simp only [N]
   refine wl_run rfl (rp_move rfl (v := .bool (!v138.2)) rfl) ?_
   simp only [N]
   refine wl_g (wn_f rfl rfl) (v := .pointer (some ⟨bd22, 1, none⟩)) (fun hg => rp_fieldAddr rfl Tryz.underlying32 rfl 1 rfl sz30 rfl (1) rfl) ?_
   simp only [N]
   refine wl_g (wn_f rfl rfl) (v := .agg (enc ((v138.1.drop (1)).take 8)).toArray) (fun hg => by simp only [gv_t hg]; exact rp_loadNe H 0 rfl rfl rfl Tryz.underlying30 rfl sz30 (1) (by omega) (by first | omega | (simp [-List.reduceReplicate]; done) | (simp [-List.reduceReplicate]; omega) | (simp [*, -List.reduceReplicate]; done) | (simp [*, -List.reduceReplicate]; omega))) ?_
   simp only [N]
   refine wl_g (wn_f rfl rfl) (v := .pointer (some ⟨b1, 1, none⟩)) (fun hg => rp_fieldAddr rfl Tryz.underlying32 rfl 1 rfl sz30 rfl (1) rfl) ?_
   simp only [N]
   refine wl_g (wn_f rfl rfl) (v := .agg #[bv a, bv b, bv c, bv (0 : UInt8), bv (0 : UInt8), bv (0 : UInt8), bv (0 : UInt8), bv (0 : UInt8)]) (fun hg => by simp only [gv_t hg]; exact rp_loadN H 6 rfl rfl rfl Tryz.underlying30 rfl sz30 (Nat.le_of_ble_eq_true rfl) (cs' := [bv a, bv b, bv c, bv (0 : UInt8), bv (0 : UInt8), bv (0 : UInt8), bv (0 : UInt8), bv (0 : UInt8)]) rfl) ?_
   simp only [N]
   refine wl_g (wn_f rfl rfl) (v := .bool (!(decide (((v138.1.drop (1)).take 8) = [a, b, c, (0 : UInt8), (0 : UInt8), (0 : UInt8), (0 : UInt8), (0 : UInt8)])))) (fun hg => by simp only [gv_t hg]; exact rp_neq_leafs rfl 6 (by decide) (by kernel_rfl) (by kernel_rfl) (ks := (List.replicate 8 (.int .u8))) (by kernel_rfl) (xs := enc ((v138.1.drop (1)).take 8)) (ys := enc [a, b, c, (0 : UInt8), (0 : UInt8), (0 : UInt8), (0 : UInt8), (0 : UInt8)]) rfl rfl (formed_enc Tryz.underlying30 rfl sz30 (by first | omega | (simp [-List.reduceReplicate]; done) | (simp [-List.reduceReplicate]; omega) | (simp [*, -List.reduceReplicate]; done) | (simp [*, -List.reduceReplicate]; omega))) (formed_enc Tryz.underlying30 rfl sz30 (by first | omega | (simp [-List.reduceReplicate]; done) | (simp [-List.reduceReplicate]; omega) | (simp [*, -List.reduceReplicate]; done) | (simp [*, -List.reduceReplicate]; omega))) (fits_enc (by first | omega | (simp [-List.reduceReplicate]; done) | (simp [-List.reduceReplicate]; omega) | (simp [*, -List.reduceReplicate]; done) | (simp [*, -List.reduceReplicate]; omega))) (fits_enc (by first | omega | (simp [-List.reduceReplicate]; done) | (simp [-List.reduceReplicate]; omega) | (simp [*, -List.reduceReplicate]; done) | (simp [*, -List.reduceReplicate]; omega))) (r := (decide (((v138.1.drop (1)).take 8) = [a, b, c, (0 : UInt8), (0 : UInt8), (0 : UInt8), (0 : UInt8), (0 : UInt8)]))) (by exact enc_iff _ _)) ?_
   simp only [N]
   refine wl_run rfl (rp_pickO rfl (p := (!v138.2)) (q := (!(decide (((v138.1.drop (1)).take 8) = [a, b, c, (0 : UInt8), (0 : UInt8), (0 : UInt8), (0 : UInt8), (0 : UInt8)])))) rfl rfl rfl) ?_
   simp only [N]
   refine wl_run rfl (rp_move rfl (v := .bool ((!v138.2) || (!(decide (((v138.1.drop (1)).take 8) = [a, b, c, (0 : UInt8), (0 : UInt8), (0 : UInt8), (0 : UInt8), (0 : UInt8)]))))) rfl) ?_
   simp only [N]
   refine wl_g (wn_f rfl rfl) (v := .pointer (some ⟨bd22, 0, none⟩)) (fun hg => rp_fieldAddr rfl Tryz.underlying32 rfl 0 rfl sz5 rfl (0) rfl) ?_
   simp only [N]
   refine wl_g (wn_f rfl rfl) (v := bv (v138.1.getD (0) 0)) (fun hg => by simp only [gv_t hg]; exact rp_load1e H 0 rfl rfl rfl Tryz.underlying5 rfl (0) rfl (by first | omega | (simp [-List.reduceReplicate]; done) | (simp [-List.reduceReplicate]; omega) | (simp [*, -List.reduceReplicate]; done) | (simp [*, -List.reduceReplicate]; omega))) ?_
   simp only [N]
   refine wl_g (wn_f rfl rfl) (v := bv ((skip % (10 : UInt8)) + (1 : UInt8))) (fun hg => rp_move rfl (v := bv ((skip % (10 : UInt8)) + (1 : UInt8))) rfl) ?_
   simp only [N]
   refine wl_g (wn_f rfl rfl) (v := bv (((skip % (10 : UInt8)) + (1 : UInt8)) + (1 : UInt8))) (fun hg => by simp only [gv_t hg]; exact rp_u8_add rfl ((skip % (10 : UInt8)) + (1 : UInt8)) (1 : UInt8) rfl rfl) ?_
   simp only [N]
   refine wl_g (wn_f rfl rfl) (v := .bool ((v138.1.getD (0) 0) == (((skip % (10 : UInt8)) + (1 : UInt8)) + (1 : UInt8)))) (fun hg => by simp only [gv_t hg]; exact rp_u8_eql rfl (v138.1.getD (0) 0) (((skip % (10 : UInt8)) + (1 : UInt8)) + (1 : UInt8)) rfl rfl) ?_
   simp only [N]
   refine wl_g (wn_f rfl rfl) (v := .pointer (some ⟨b3, 1, none⟩)) (fun hg => rp_fieldAddr rfl Tryz.underlying61 rfl 1 rfl sz4 rfl (1) rfl) ?_
   simp only [N]
   refine wl_g (wn_f rfl rfl) (v := .bool (([(⟨(4 : UInt8), (a == b)⟩ : FnOver), (⟨(5 : UInt8), (a != b)⟩ : FnOver), (⟨(6 : UInt8), (decide (a < b))⟩ : FnOver)] : List FnOver).getD (a124) default).over) (fun hg => by simp only [gv_t hg]; exact rp_load1 H 1 rfl rfl rfl Tryz.underlying4 rfl (v := .bool (([(⟨(4 : UInt8), (a == b)⟩ : FnOver), (⟨(5 : UInt8), (a != b)⟩ : FnOver), (⟨(6 : UInt8), (decide (a < b))⟩ : FnOver)] : List FnOver).getD (a124) default).over) rfl) ?_
   simp only [N]
   refine wl_g (wn_f rfl rfl) (v := .bool (((v138.1.getD (0) 0) == (((skip % (10 : UInt8)) + (1 : UInt8)) + (1 : UInt8))) != (([(⟨(4 : UInt8), (a == b)⟩ : FnOver), (⟨(5 : UInt8), (a != b)⟩ : FnOver), (⟨(6 : UInt8), (decide (a < b))⟩ : FnOver)] : List FnOver).getD (a124) default).over)) (fun hg => by simp only [gv_t hg]; exact rp_bool_neq rfl Tryz.underlying4 ((v138.1.getD (0) 0) == (((skip % (10 : UInt8)) + (1 : UInt8)) + (1 : UInt8))) (([(⟨(4 : UInt8), (a == b)⟩ : FnOver), (⟨(5 : UInt8), (a != b)⟩ : FnOver), (⟨(6 : UInt8), (decide (a < b))⟩ : FnOver)] : List FnOver).getD (a124) default).over rfl rfl) ?_
   simp only [N]
   refine wl_run rfl (rp_pickO rfl (p := ((!v138.2) || (!(decide (((v138.1.drop (1)).take 8) = [a, b, c, (0 : UInt8), (0 : UInt8), (0 : UInt8), (0 : UInt8), (0 : UInt8)]))))) (q := (((v138.1.getD (0) 0) == (((skip % (10 : UInt8)) + (1 : UInt8)) + (1 : UInt8))) != (([(⟨(4 : UInt8), (a == b)⟩ : FnOver), (⟨(5 : UInt8), (a != b)⟩ : FnOver), (⟨(6 : UInt8), (decide (a < b))⟩ : FnOver)] : List FnOver).getD (a124) default).over)) rfl rfl rfl) ?_
   simp only [N]
   refine wl_run rfl (rp_move rfl (v := .bool (((!v138.2) || (!(decide (((v138.1.drop (1)).take 8) = [a, b, c, (0 : UInt8), (0 : UInt8), (0 : UInt8), (0 : UInt8), (0 : UInt8)])))) || (((v138.1.getD (0) 0) == (((skip % (10 : UInt8)) + (1 : UInt8)) + (1 : UInt8))) != (([(⟨(4 : UInt8), (a == b)⟩ : FnOver), (⟨(5 : UInt8), (a != b)⟩ : FnOver), (⟨(6 : UInt8), (decide (a < b))⟩ : FnOver)] : List FnOver).getD (a124) default).over))) rfl) ?_
   simp only [N]
   refine wl_g (wn_f rfl rfl) (v := .pointer (some ⟨b3, 1, none⟩)) (fun hg => rp_fieldAddr rfl Tryz.underlying61 rfl 1 rfl sz4 rfl (1) rfl) ?_
   simp only [N]
   refine wl_g (wn_f rfl rfl) (v := .bool (([(⟨(4 : UInt8), (a == b)⟩ : FnOver), (⟨(5 : UInt8), (a != b)⟩ : FnOver), (⟨(6 : UInt8), (decide (a < b))⟩ : FnOver)] : List FnOver).getD (a124) default).over) (fun hg => by simp only [gv_t hg]; exact rp_load1 H 1 rfl rfl rfl Tryz.underlying4 rfl (v := .bool (([(⟨(4 : UInt8), (a == b)⟩ : FnOver), (⟨(5 : UInt8), (a != b)⟩ : FnOver), (⟨(6 : UInt8), (decide (a < b))⟩ : FnOver)] : List FnOver).getD (a124) default).over) rfl) ?_
   simp only [N]
   refine wl_g (wn_f rfl rfl) (v := .bool (!(([(⟨(4 : UInt8), (a == b)⟩ : FnOver), (⟨(5 : UInt8), (a != b)⟩ : FnOver), (⟨(6 : UInt8), (decide (a < b))⟩ : FnOver)] : List FnOver).getD (a124) default).over)) (fun hg => by simp only [gv_t hg]; exact rp_not rfl (([(⟨(4 : UInt8), (a == b)⟩ : FnOver), (⟨(5 : UInt8), (a != b)⟩ : FnOver), (⟨(6 : UInt8), (decide (a < b))⟩ : FnOver)] : List FnOver).getD (a124) default).over rfl) ?_
   simp only [N]
   refine wl_g (wn_f rfl rfl) (v := .bool (!(([(⟨(4 : UInt8), (a == b)⟩ : FnOver), (⟨(5 : UInt8), (a != b)⟩ : FnOver), (⟨(6 : UInt8), (decide (a < b))⟩ : FnOver)] : List FnOver).getD (a124) default).over)) (fun hg => by simp only [gv_t hg]; exact rp_move rfl (v := .bool (!(([(⟨(4 : UInt8), (a == b)⟩ : FnOver), (⟨(5 : UInt8), (a != b)⟩ : FnOver), (⟨(6 : UInt8), (decide (a < b))⟩ : FnOver)] : List FnOver).getD (a124) default).over)) rfl) ?_
   simp only [N]
   refine wl_g (wn_tg rfl rfl rfl) (v := .pointer (some ⟨bd22, 0, none⟩)) (fun hg => rp_fieldAddr rfl Tryz.underlying32 rfl 0 rfl sz5 rfl (0) rfl) ?_
   simp only [N]
   refine wl_g (wn_tg rfl rfl rfl) (v := bv (v138.1.getD (0) 0)) (fun hg => by simp only [gv_t hg]; exact rp_load1e H 0 rfl rfl rfl Tryz.underlying5 rfl (0) rfl (by first | omega | (simp [-List.reduceReplicate]; done) | (simp [-List.reduceReplicate]; omega) | (simp [*, -List.reduceReplicate]; done) | (simp [*, -List.reduceReplicate]; omega))) ?_
   simp only [N]
   refine wl_g (wn_tg rfl rfl rfl) (v := .bool ((v138.1.getD (0) 0) != (1 : UInt8))) (fun hg => by simp only [gv_t hg]; exact rp_u8_neq rfl (v138.1.getD (0) 0) (1 : UInt8) rfl rfl) ?_
   simp only [N]
   refine wl_g (wn_f rfl rfl) (v := .bool ((!(([(⟨(4 : UInt8), (a == b)⟩ : FnOver), (⟨(5 : UInt8), (a != b)⟩ : FnOver), (⟨(6 : UInt8), (decide (a < b))⟩ : FnOver)] : List FnOver).getD (a124) default).over) && ((v138.1.getD (0) 0) != (1 : UInt8)))) (fun hg => rp_pickAg rfl (p := (!(([(⟨(4 : UInt8), (a == b)⟩ : FnOver), (⟨(5 : UInt8), (a != b)⟩ : FnOver), (⟨(6 : UInt8), (decide (a < b))⟩ : FnOver)] : List FnOver).getD (a124) default).over)) (q := ((v138.1.getD (0) 0) != (1 : UInt8))) hg rfl rfl rfl) ?_
   simp only [N]
   refine wl_run rfl (rp_pickO rfl (p := (((!v138.2) || (!(decide (((v138.1.drop (1)).take 8) = [a, b, c, (0 : UInt8), (0 : UInt8), (0 : UInt8), (0 : UInt8), (0 : UInt8)])))) || (((v138.1.getD (0) 0) == (((skip % (10 : UInt8)) + (1 : UInt8)) + (1 : UInt8))) != (([(⟨(4 : UInt8), (a == b)⟩ : FnOver), (⟨(5 : UInt8), (a != b)⟩ : FnOver), (⟨(6 : UInt8), (decide (a < b))⟩ : FnOver)] : List FnOver).getD (a124) default).over))) (q := ((!(([(⟨(4 : UInt8), (a == b)⟩ : FnOver), (⟨(5 : UInt8), (a != b)⟩ : FnOver), (⟨(6 : UInt8), (decide (a < b))⟩ : FnOver)] : List FnOver).getD (a124) default).over) && ((v138.1.getD (0) 0) != (1 : UInt8)))) rfl rfl rfl) ?_
   simp only [N]
   refine wpList_nil ?_
   refine wp_cond_split rfl (fun hc3 => ?_) (fun hc3 => ?_)
   · --T 3
    refine wp_seq ?_
    refine wp_region_lit ?_
    refine wl_run rfl (rp_assign rfl (v := .bool false) rfl) ?_
    simp only [N]
    refine wpList_nil ?_
    refine wp_ret ?_
    try simp only [Exit.inBlock, Exit.then, cutP]
    refine bodyPost_ret (results1 rfl (rv_tmp rfl)) rfl ?_
    have hF : (sumsF a b c skip P_) = false := (hFv138).trans (bt hc3)
    rw [hF]
    exact ⟨rfl, H.ext⟩
   · --F 3
    refine wp_skip ?_
    refine wp_region_lit ?_
    refine wl_run rfl (rp_int_add rfl ((a124 : Nat) : Int) (1 : Int) rfl rfl (by omega)) ?_
    simp only [N]
    refine wl_run rfl (rp_move rfl (v := iv (((a124 : Nat) : Int) + (1 : Int))) rfl) ?_
    simp only [N]
    refine wpList_nil ?_
    replace H := H.dropNew 0 rfl (foot_blk (H.newrow 0 rfl _ rfl)); simp only [m5, m6] at H
    replace H := H.dropNew 0 rfl (foot_blk hnb3); simp only [m5, m6] at H
    show ∃ n', n' < _ ∧ _
    refine ⟨_, ?_, (a124 + 1), (by kernel_rfl), H, (by omega), ((hFv138).trans (bf hc3)).trans (congrFun hra _), rfl⟩
    omega
  · --F 2
   have hc2N61 : ((([(⟨(4 : UInt8), (a == b)⟩ : FnOver), (⟨(5 : UInt8), (a != b)⟩ : FnOver), (⟨(6 : UInt8), (decide (a < b))⟩ : FnOver)] : List FnOver).length : Nat) : Int) ≤ ((a124 : Nat) : Int) := (by simpa using hc2)
   have hFa2 := hFa.trans (loopL_end (show ([(⟨(4 : UInt8), (a == b)⟩ : FnOver), (⟨(5 : UInt8), (a != b)⟩ : FnOver), (⟨(6 : UInt8), (decide (a < b))⟩ : FnOver)] : List FnOver).length ≤ a124 by omega))
   refine wp_exit ?_
   refine wp_seq ?_
   refine wp_region_lit ?_
   refine wl_xallocF H rfl (xa_buildSlice rfl Tryz.underlying22 sz9 zv9 (by decide) (by decide) (vs := [(0, .string (⟨#[120]⟩ : ByteArray))]) rfl (cs := #[.string (⟨#[120]⟩ : ByteArray)]) (by kernel_rfl)) ?_
   clear H; intro b4 w12 hnb4 H
   simp only [N]
   refine wl_run rfl (rp_move rfl (v := bv a) rfl) ?_
   simp only [N]
   refine wl_xallocF H rfl (xa_buildSlice rfl Tryz.underlying23 sz5 zv5 (by decide) (by decide) (vs := [(0, bv a)]) rfl (cs := #[bv a]) (by kernel_rfl)) ?_
   clear H; intro b5 w13 hnb5 H
   simp only [N]
   refine wl_run rfl (rp_move rfl (v := bv b) rfl) ?_
   simp only [N]
   refine wl_run rfl (rp_build rfl (vs := [(1, bv b)]) rfl (cs := #[.bool false, bv b]) (by kernel_rfl)) ?_
   simp only [N]
   refine wl_run rfl (rp_build rfl (vs := [(0, bv (5 : UInt8)), (3, .agg #[.bool false, bv b])]) rfl (cs := #[bv (5 : UInt8), bv (0 : UInt8), bv (0 : UInt8), .bool false, bv b, .bool false, bv (0 : UInt8), bv (0 : UInt8), bv (0 : UInt8), bv (0 : UInt8)]) (by kernel_rfl)) ?_
   simp only [N]
   refine wl_run rfl (rp_move rfl (v := bv c) rfl) ?_
   simp only [N]
   refine wl_run rfl (rp_build rfl (vs := [(1, bv c)]) rfl (cs := #[.bool false, bv c]) (by kernel_rfl)) ?_
   simp only [N]
   refine wl_run rfl (rp_build rfl (vs := [(0, bv (4 : UInt8)), (1, bv (1 : UInt8)), (3, .agg #[.bool false, bv c])]) rfl (cs := #[bv (4 : UInt8), bv (1 : UInt8), bv (0 : UInt8), .bool false, bv c, .bool false, bv (0 : UInt8), bv (0 : UInt8), bv (0 : UInt8), bv (0 : UInt8)]) (by kernel_rfl)) ?_
   simp only [N]
   refine wl_run rfl (rp_move rfl (v := bv b) rfl) ?_
   simp only [N]
   refine wl_run rfl (rp_build rfl (vs := [(1, bv b)]) rfl (cs := #[.bool false, bv b]) (by kernel_rfl)) ?_
   simp only [N]
   refine wl_run rfl (rp_move rfl (v := bv a) rfl) ?_
   simp only [N]
   refine wl_run rfl (rp_build rfl (vs := [(1, bv a)]) rfl (cs := #[.bool false, bv a]) (by kernel_rfl)) ?_
   simp only [N]
   refine wl_run rfl (rp_build rfl (vs := [(0, bv (6 : UInt8)), (1, bv (2 : UInt8)), (3, .agg #[.bool false, bv b]), (4, .agg #[.bool false, bv a])]) rfl (cs := #[bv (6 : UInt8), bv (2 : UInt8), bv (0 : UInt8), .bool false, bv b, .bool false, bv a, bv (0 : UInt8), bv (0 : UInt8), bv (0 : UInt8)]) (by kernel_rfl)) ?_
   simp only [N]
   refine wl_xallocF H rfl (xa_buildSlice rfl Tryz.underlying53 sz52 zv52 (by decide) (by decide) (vs := [(0, .agg #[bv (5 : UInt8), bv (0 : UInt8), bv (0 : UInt8), .bool false, bv b, .bool false, bv (0 : UInt8), bv (0 : UInt8), bv (0 : UInt8), bv (0 : UInt8)]), (1, .agg #[bv (4 : UInt8), bv (1 : UInt8), bv (0 : UInt8), .bool false, bv c, .bool false, bv (0 : UInt8), bv (0 : UInt8), bv (0 : UInt8), bv (0 : UInt8)]), (2, .agg #[bv (6 : UInt8), bv (2 : UInt8), bv (0 : UInt8), .bool false, bv b, .bool false, bv a, bv (0 : UInt8), bv (0 : UInt8), bv (0 : UInt8)])]) rfl (cs := #[bv (5 : UInt8), bv (0 : UInt8), bv (0 : UInt8), .bool false, bv b, .bool false, bv (0 : UInt8), bv (0 : UInt8), bv (0 : UInt8), bv (0 : UInt8), bv (4 : UInt8), bv (1 : UInt8), bv (0 : UInt8), .bool false, bv c, .bool false, bv (0 : UInt8), bv (0 : UInt8), bv (0 : UInt8), bv (0 : UInt8), bv (6 : UInt8), bv (2 : UInt8), bv (0 : UInt8), .bool false, bv b, .bool false, bv a, bv (0 : UInt8), bv (0 : UInt8), bv (0 : UInt8)]) (by kernel_rfl)) ?_
   clear H; intro b6 w14 hnb6 H
   simp only [N]
   refine wl_xallocF H rfl (xa_buildSlice rfl Tryz.underlying24 sz53 zv53 (by decide) (by decide) (vs := [(0, .slice (some ⟨b6, 0, none⟩) 3 3)]) rfl (cs := #[.slice (some ⟨b6, 0, none⟩) 3 3]) (by kernel_rfl)) ?_
   clear H; intro b7 w15 hnb7 H
   simp only [N]
   replace H := H.infer (IsProg (sumsF_q1 b4 b5 b7 b6 a b c)) (fun _ hR => (show IsProg (sumsF_q1 b4 b5 b7 b6 a b c) _ from by unfold sumsF_q1; exact ⟨(slin_blk (ro_mem hR 3 rfl) ⟨[], rfl⟩ eStrN (Nat.le_of_ble_eq_true rfl)), (slin_blk (ro_mem hR 2 rfl) ⟨[], rfl⟩ eByteN (Nat.le_of_ble_eq_true rfl)), (slin_blk (ro_mem hR 0 rfl) ⟨[], rfl⟩ eSlN (Nat.le_of_ble_eq_true rfl)), List.forall_mem_cons.2 ⟨(slin_blk (ro_mem hR 1 rfl) ⟨[], rfl⟩ insN (Nat.le_of_ble_eq_true rfl)), fun _ h => by cases h⟩, .mk _ (slin_nil condN) (fun _ h => by cases h), by first | exact Nat.le_of_ble_eq_true rfl | omega, List.forall_mem_cons.2 ⟨by first | exact Nat.le_of_ble_eq_true rfl | omega, fun _ h => by cases h⟩, by simp [deepF, deepsF]⟩))
   refine wl_run rfl (rp_build rfl (vs := [(0, .string (⟨#[102]⟩ : ByteArray)), (1, .slice (some ⟨b4, 0, none⟩) 1 1), (2, .slice (some ⟨b5, 0, none⟩) 1 1), (4, bv (3 : UInt8)), (3, .slice (some ⟨b7, 0, none⟩) 1 1)]) rfl (cs := ((sumsF_q1 b4 b5 b7 b6 a b c).cells).toArray) (by kernel_rfl)) ?_
   simp only [N]
   refine wl_alloc H rfl rfl zv29 ?_
   clear H; intro b8 w16 hnb8 H; dsimp only [Value.cells] at H
   simp only [N]
   refine wl_storeW H 0 rfl rfl rfl rfl (vs := ((sumsF_q1 b4 b5 b7 b6 a b c).cells).toArray) rfl (Prog.cells_one _) (by first | exact sz29 | (rw [sz29]; congr 1; first | omega | (simp [-List.reduceReplicate]; done) | (simp [-List.reduceReplicate]; omega) | (simp [*, -List.reduceReplicate]; done) | (simp [*, -List.reduceReplicate]; omega))) (by first | rfl | first | omega | (simp [-List.reduceReplicate]; done) | (simp [-List.reduceReplicate]; omega) | (simp [*, -List.reduceReplicate]; done) | (simp [*, -List.reduceReplicate]; omega)) ?_
   clear H; intro w17 H; simp only [M] at H
   simp only [N]
   refine wpList_nil ?_
   refine wp_seq ?_
   refine wp_region_lit ?_
   refine wl_run rfl (rp_loadN H 0 rfl rfl rfl Tryz.underlying29 rfl sz29 (Nat.le_of_ble_eq_true rfl) (cs' := (sumsF_q1 b4 b5 b7 b6 a b c).cells) rfl) ?_
   simp only [N]
   refine wl_callFA H rfl (rc_go Tryz.func18 (by kernel_rfl) rfl) ((by have hq := playF_spec (sumsF_q1 b4 b5 b7 b6 a b c) (⟨none, 0, []⟩ : Sl UInt8) _ (H.ro_at 0 rfl) (slin_nil eByteN) (H.ro_at 6 rfl); rw [show (playF (sumsF_q1 b4 b5 b7 b6 a b c) ((⟨none, 0, []⟩ : Sl UInt8).l)) = (playF P_ ([])) from by rw [← playF_er (sumsF_q1 b4 b5 b7 b6 a b c), show er (sumsF_q1 b4 b5 b7 b6 a b c) = er P_ from (by rw [hP]; rfl), playF_er]] at hq; exact hq)) ?_
   clear H; intro x1_ w18 H
   simp only [N]
   have hcx1_0 : ((playF P_ ([])).2.1).length ≤ 140737488355328 := ((FreshAt.now (H.ro_at 0 rfl))).2.2.1
   refine wl_run rfl (rp_move rfl (v := .tuple #[.agg (enc (playF P_ ([])).1).toArray, (⟨x1_.1, x1_.2, (playF P_ ([])).2.1⟩ : Sl Int).val, iv (playF P_ ([])).2.2]) rfl) ?_
   simp only [N]
   refine wl_run rfl (rp_extract rfl rfl (v := .agg (enc (playF P_ ([])).1).toArray) rfl) ?_
   simp only [N]
   refine wl_run rfl (rp_extract rfl rfl (v := (⟨x1_.1, x1_.2, (playF P_ ([])).2.1⟩ : Sl Int).val) rfl) ?_
   simp only [N]
   refine wl_run rfl (rp_extract rfl rfl (v := iv (playF P_ ([])).2.2) rfl) ?_
   simp only [N]
   refine wl_alloc H rfl rfl zv65 ?_
   clear H; intro b9 w19 hnb9 H; dsimp only [Value.cells] at H
   simp only [N]
   simp only [enc_replicate] at H
   refine wl_storeW H 0 rfl rfl rfl rfl (vs := (enc (playF P_ ([])).1).toArray) rfl (fun v hv => enc_one v (by simpa using hv)) (by first | (rw [sz65]; congr 1; done) | (rw [sz65]; congr 1; first | omega | (simp [-List.reduceReplicate]; done) | (simp [-List.reduceReplicate]; omega) | (simp [*, -List.reduceReplicate]; done) | (simp [*, -List.reduceReplicate]; omega))) (by first | omega | (simp [-List.reduceReplicate]; done) | (simp [-List.reduceReplicate]; omega) | (simp [*, -List.reduceReplicate]; done) | (simp [*, -List.reduceReplicate]; omega)) ?_
   clear H; intro w20 H; simp only [M] at H
   simp only [N]
   refine wl_run rfl (rp_assign rfl (v := (⟨x1_.1, x1_.2, (playF P_ ([])).2.1⟩ : Sl Int).val) rfl) ?_
   simp only [N]
   refine wl_run rfl (rp_assign rfl (v := iv (playF P_ ([])).2.2) rfl) ?_
   simp only [N]
   refine wpList_nil ?_
   refine wp_seq ?_
   refine wp_region_lit ?_
   refine wl_run rfl (rp_move rfl (v := bv c) rfl) ?_
   simp only [N]
   refine wl_run rfl (rp_assign rfl (v := bv c) rfl) ?_
   simp only [N]
   refine wpList_nil ?_
   refine wp_seq ?_
   refine wp_cutX (fun a' w' => ∃ (b28 : UInt8), a' = ⟨#[bv a, bv b, bv c, bv skip, undef, undef, undef, undef, (ua 8), (tq a' 9), (tq a' 10), (ua 11), (ua 12), (ua 13), (ua 14), (ua 15), (ua 16), (ua 17), (ua 18), (tq a' 19), undef, (ua 21), (ua 22), (ua 23), (tq a' 24), .pointer (some ⟨b9, 0, none⟩), (⟨x1_.1, x1_.2, (playF P_ ([])).2.1⟩ : Sl Int).val, iv (playF P_ ([])).2.2, bv b28, bv a, bv b, bv c, (ua 32), (ua 33), (ua 34), (ua 35), (ua 36), (ua 37), (ua 38), (ua 39), (ua 40), (ua 41), (ua 42), (ua 43), (ua 44), (ua 45), (ua 46), (ua 47), (ua 48), (ua 49), (ua 50), (ua 51), (ua 52), (ua 53), (ua 54), (ua 55), (ua 56), (ua 57), (ua 58), (ua 59), (ua 60), (ua 61), (ua 62), (ua 63), (ua 64), (ua 65), (ua 66), (ua 67), (ua 68), (ua 69), (ua 70), (ua 71), (ua 72), (ua 73), (ua 74), (ua 75), (ua 76), bv a, (ua 78), (ua 79), (ua 80), (ua 81), (ua 82), (ua 83), (ua 84), (ua 85), (ua 86), (ua 87), (ua 88), (ua 89), (ua 90), (ua 91), (ua 92), (ua 93), (ua 94), (ua 95), (ua 96), (ua 97), (ua 98), (ua 99), (ua 100), (ua 101), (ua 102), (ua 103), (ua 104), (ua 105), (ua 106), bv skip, (ua 108), (ua 109), bv a, bv b, (ua 112), (ua 113), bv a, bv b, (ua 116), (ua 117), bv a, bv b, (ua 120), (ua 121), (tq a' 122), (tq a' 123), (tq a' 124), (tq a' 125), (ua 126), (ua 127), (ua 128), (ua 129), (ua 130), (ua 131), (ua 132), (ua 133), (ua 134), (ua 135), (ua 136), (ua 137), (ua 138), (ua 139), (ua 140), (ua 141), (ua 142), (ua 143), (ua 144), (ua 145), (ua 146), (ua 147), (ua 148), (ua 149), (ua 150), (ua 151), (ua 152), (ua 153), (ua 154), (ua 155), (ua 156), (ua 157), (ua 158), (ua 159), (ua 160), (ua 161), (ua 162), (ua 163), (ua 164), (ua 165), (ua 166), (ua 167), (ua 168), (ua 169), (ua 170), (tq a' 171), bv a, (tq a' 173), bv b, (tq a' 175), (tq a' 176), bv c, (tq a' 178), (tq a' 179), bv b, (tq a' 181), bv a, (tq a' 183), (tq a' 184), (tq a' 185), (tq a' 186), (tq a' 187), (tq a' 188), (tq a' 189), (tq a' 190), (tq a' 191), (tq a' 192), (tq a' 193), bv c, (tq a' 195), (tq a' 196), (tq a' 197), (tq a' 198), undef, undef, undef, undef, undef, undef, undef, undef, undef, undef, undef, undef, undef, undef, undef, undef, undef, undef, undef, undef, undef, undef, undef, undef, undef, undef, undef, undef, undef, undef, undef, undef, undef, undef, undef, undef, undef, undef, undef, undef, undef, undef, undef], []⟩ ∧ Own w [] [FreshAt w (SlIn 1 eInt (⟨x1_.1, x1_.2, (playF P_ ([])).2.1⟩ : Sl Int)), IsProg (sumsF_q1 b4 b5 b7 b6 a b c), fun w => w.heap[b7]? = some (.cells #[.slice (some ⟨b6, 0, none⟩) 3 3] 53 (0, 0)), fun w => w.heap[b6]? = some (.cells #[bv (5 : UInt8), bv (0 : UInt8), bv (0 : UInt8), .bool false, bv b, .bool false, bv (0 : UInt8), bv (0 : UInt8), bv (0 : UInt8), bv (0 : UInt8), bv (4 : UInt8), bv (1 : UInt8), bv (0 : UInt8), .bool false, bv c, .bool false, bv (0 : UInt8), bv (0 : UInt8), bv (0 : UInt8), bv (0 : UInt8), bv (6 : UInt8), bv (2 : UInt8), bv (0 : UInt8), .bool false, bv b, .bool false, bv a, bv (0 : UInt8), bv (0 : UInt8), bv (0 : UInt8)] 52 (0, 0)), fun w => w.heap[b5]? = some (.cells #[bv a] 5 (0, 0)), fun w => w.heap[b4]? = some (.cells #[.string (⟨#[120]⟩ : ByteArray)] 9 (0, 0)), fun w => w.heap[b2]? = some (.cells #[bv (4 : UInt8), .bool (a == b), bv (5 : UInt8), .bool (a != b), bv (6 : UInt8), .bool (decide (a < b))] 61 (0, 0)), Glob] [.blk b9 (.cells (enc (playF P_ ([])).1).toArray 65 (0, 0)), .blk b8 (.cells ((sumsF_q1 b4 b5 b7 b6 a b c).cells).toArray 29 (0, 0)), .blk bd17 (.cells (enc v71.1).toArray 32 (0, 0)), .blk bd15 (.cells (enc v61.1).toArray 32 (0, 0)), .blk bd13 (.cells (enc v51.1).toArray 32 (0, 0)), .blk bd11 (.cells (enc v41.1).toArray 32 (0, 0)), .blk b1 (.cells #[bv (0 : UInt8), bv a, bv b, bv c, bv (0 : UInt8), bv (0 : UInt8), bv (0 : UInt8), bv (0 : UInt8), bv (0 : UInt8)] 32 (0, 0))] w' ∧ (sumsF a b c skip P_) = sumsF_b a b c P_ b28) ?_ ?_
   ·
    refine wp_seq ?_
    refine wp_region_lit ?_
    refine wl_run rfl (rp_move rfl (v := bv c) rfl) ?_
    simp only [N]
    refine wl_run rfl (rp_move rfl (v := bv b) rfl) ?_
    simp only [N]
    refine wl_run rfl (rp_u8_eql rfl c b rfl rfl) ?_
    simp only [N]
    refine wpList_nil ?_
    refine wp_cond_split rfl (fun hc4 => ?_) (fun hc4 => ?_)
    · --T 4
     have hc4N62 : (c).toNat = (b).toNat := u8_eq hc4
     refine wp_region_lit ?_
     refine wl_run rfl (rp_move rfl (v := bv a) rfl) ?_
     simp only [N]
     refine wl_run rfl (rp_assign rfl (v := bv a) rfl) ?_
     simp only [N]
     refine wpList_nil ?_
     exact ⟨a, (by kernel_rfl), H, (hFa2).trans (bt hc4)⟩
    · --F 4
     have hc4N63 : (c).toNat ≠ (b).toNat := u8_ne hc4
     refine wp_skip ?_
     exact ⟨c, (by kernel_rfl), H, (hFa2).trans (bf hc4)⟩
   clear H
   rintro a_ w21 ⟨b28, ha_, H, hFb⟩
   obtain ⟨ub, hu_⟩ : ∃ ub : Nat → Value, a_ = ⟨#[bv a, bv b, bv c, bv skip, undef, undef, undef, undef, (ua 8), (ub 9), (ub 10), (ua 11), (ua 12), (ua 13), (ua 14), (ua 15), (ua 16), (ua 17), (ua 18), (ub 19), undef, (ua 21), (ua 22), (ua 23), (ub 24), .pointer (some ⟨b9, 0, none⟩), (⟨x1_.1, x1_.2, (playF P_ ([])).2.1⟩ : Sl Int).val, iv (playF P_ ([])).2.2, bv b28, bv a, bv b, bv c, (ua 32), (ua 33), (ua 34), (ua 35), (ua 36), (ua 37), (ua 38), (ua 39), (ua 40), (ua 41), (ua 42), (ua 43), (ua 44), (ua 45), (ua 46), (ua 47), (ua 48), (ua 49), (ua 50), (ua 51), (ua 52), (ua 53), (ua 54), (ua 55), (ua 56), (ua 57), (ua 58), (ua 59), (ua 60), (ua 61), (ua 62), (ua 63), (ua 64), (ua 65), (ua 66), (ua 67), (ua 68), (ua 69), (ua 70), (ua 71), (ua 72), (ua 73), (ua 74), (ua 75), (ua 76), bv a, (ua 78), (ua 79), (ua 80), (ua 81), (ua 82), (ua 83), (ua 84), (ua 85), (ua 86), (ua 87), (ua 88), (ua 89), (ua 90), (ua 91), (ua 92), (ua 93), (ua 94), (ua 95), (ua 96), (ua 97), (ua 98), (ua 99), (ua 100), (ua 101), (ua 102), (ua 103), (ua 104), (ua 105), (ua 106), bv skip, (ua 108), (ua 109), bv a, bv b, (ua 112), (ua 113), bv a, bv b, (ua 116), (ua 117), bv a, bv b, (ua 120), (ua 121), (ub 122), (ub 123), (ub 124), (ub 125), (ua 126), (ua 127), (ua 128), (ua 129), (ua 130), (ua 131), (ua 132), (ua 133), (ua 134), (ua 135), (ua 136), (ua 137), (ua 138), (ua 139), (ua 140), (ua 141), (ua 142), (ua 143), (ua 144), (ua 145), (ua 146), (ua 147), (ua 148), (ua 149), (ua 150), (ua 151), (ua 152), (ua 153), (ua 154), (ua 155), (ua 156), (ua 157), (ua 158), (ua 159), (ua 160), (ua 161), (ua 162), (ua 163), (ua 164), (ua 165), (ua 166), (ua 167), (ua 168), (ua 169), (ua 170), (ub 171), bv a, (ub 173), bv b, (ub 175), (ub 176), bv c, (ub 178), (ub 179), bv b, (ub 181), bv a, (ub 183), (ub 184), (ub 185), (ub 186), (ub 187), (ub 188), (ub 189), (ub 190), (ub 191), (ub 192), (ub 193), bv c, (ub 195), (ub 196), (ub 197), (ub 198), undef, undef, undef, undef, undef, undef, undef, undef, undef, undef, undef, undef, undef, undef, undef, undef, undef, undef, undef, undef, undef, undef, undef, undef, undef, undef, undef, undef, undef, undef, undef, undef, undef, undef, undef, undef, undef, undef, undef, undef, undef, undef, undef], []⟩ := ⟨fun n => tq a_ n, ha_⟩
   clear ha_; subst hu_
   refine wp_seq ?_
   refine wp_region_lit ?_
   refine wl_run rfl (rp_move rfl (v := iv (playF P_ ([])).2.2) rfl) ?_
   simp only [N]
   refine wl_run rfl (rp_int_eql rfl (playF P_ ([])).2.2 (0 : Int) rfl rfl) ?_
   simp only [N]
   refine wl_run rfl (rp_move rfl (v := .bool ((playF P_ ([])).2.2 == (0 : Int))) rfl) ?_
   simp only [N]
   refine wl_g (wn_t rfl rfl) (v := (⟨x1_.1, x1_.2, (playF P_ ([])).2.1⟩ : Sl Int).val) (fun hg => rp_move rfl (v := (⟨x1_.1, x1_.2, (playF P_ ([])).2.1⟩ : Sl Int).val) rfl) ?_
   simp only [N]
   refine wl_g (wn_t rfl rfl) (v := iv (((playF P_ ([])).2.1.length : Nat) : Int)) (fun hg => by have x65 : (playF P_ ([])).2.2 = (0 : Int) := (by simpa using hg); exact (by simp only [gv_t hg]; exact rp_len_sl (s := (⟨x1_.1, x1_.2, (playF P_ ([])).2.1⟩ : Sl Int)) Tryz.underlying44 rfl)) ?_
   simp only [N]
   refine wl_g (wn_t rfl rfl) (v := .bool ((((playF P_ ([])).2.1.length : Nat) : Int) == (3 : Int))) (fun hg => by have x66 : (playF P_ ([])).2.2 = (0 : Int) := (by simpa using hg); exact (by simp only [gv_t hg]; exact rp_int_eql rfl (((playF P_ ([])).2.1.length : Nat) : Int) (3 : Int) rfl rfl)) ?_
   simp only [N]
   refine wl_run rfl (rp_pickA rfl (p := ((playF P_ ([])).2.2 == (0 : Int))) (q := ((((playF P_ ([])).2.1.length : Nat) : Int) == (3 : Int))) rfl rfl rfl) ?_
   simp only [N]
   refine wl_run rfl (rp_move rfl (v := .bool (((playF P_ ([])).2.2 == (0 : Int)) && ((((playF P_ ([])).2.1.length : Nat) : Int) == (3 : Int)))) rfl) ?_
   simp only [N]
   refine wl_g (wn_t rfl rfl) (v := .pointer (some ⟨b9, 0, none⟩)) (fun hg => rp_fieldAddr rfl Tryz.underlying65 rfl 0 rfl sz63 rfl (0) rfl) ?_
   simp only [N]
   refine wl_g (wn_t rfl rfl) (v := .pointer (some ⟨b9, 0, none⟩)) (fun hg => by have x69 : (playF P_ ([])).2.2 = (0 : Int) := (by simpa using (andl hg)); have x70 : (((playF P_ ([])).2.1.length : Nat) : Int) = (3 : Int) := (by simpa using (andr hg)); exact (by simp only [gv_t hg]; exact rp_indexAddr_arr rfl Tryz.underlying63 sz30 rfl 0 rfl (by omega) (0) (by omega))) ?_
   simp only [N]
   refine wl_g (wn_t rfl rfl) (v := .pointer (some ⟨b9, 0, none⟩)) (fun hg => by have x71 : (playF P_ ([])).2.2 = (0 : Int) := (by simpa using (andl hg)); have x72 : (((playF P_ ([])).2.1.length : Nat) : Int) = (3 : Int) := (by simpa using (andr hg)); exact (by simp only [gv_t hg]; exact rp_indexAddr_arr rfl Tryz.underlying30 sz5 rfl 0 rfl (by omega) (0) (by omega))) ?_
   simp only [N]
   refine wl_g (wn_t rfl rfl) (v := bv ((playF P_ ([])).1.getD (0) 0)) (fun hg => by have x73 : (playF P_ ([])).2.2 = (0 : Int) := (by simpa using (andl hg)); have x74 : (((playF P_ ([])).2.1.length : Nat) : Int) = (3 : Int) := (by simpa using (andr hg)); exact (by simp only [gv_t hg]; exact rp_load1e H 0 rfl rfl rfl Tryz.underlying5 rfl (0) rfl (by first | omega | (simp [-List.reduceReplicate]; done) | (simp [-List.reduceReplicate]; omega) | (simp [*, -List.reduceReplicate]; done) | (simp [*, -List.reduceReplicate]; omega)))) ?_
   simp only [N]
   refine wl_g (wn_t rfl rfl) (v := bv a) (fun hg => rp_move rfl (v := bv a) rfl) ?_
   simp only [N]
   refine wl_g (wn_t rfl rfl) (v := .bool (((playF P_ ([])).1.getD (0) 0) == a)) (fun hg => by have x77 : (playF P_ ([])).2.2 = (0 : Int) := (by simpa using (andl hg)); have x78 : (((playF P_ ([])).2.1.length : Nat) : Int) = (3 : Int) := (by simpa using (andr hg)); exact (by simp only [gv_t hg]; exact rp_u8_eql rfl ((playF P_ ([])).1.getD (0) 0) a rfl rfl)) ?_
   simp only [N]
   refine wl_run rfl (rp_pickA rfl (p := (((playF P_ ([])).2.2 == (0 : Int)) && ((((playF P_ ([])).2.1.length : Nat) : Int) == (3 : Int)))) (q := (((playF P_ ([])).1.getD (0) 0) == a)) rfl rfl rfl) ?_
   simp only [N]
   refine wl_run rfl (rp_move rfl (v := .bool ((((playF P_ ([])).2.2 == (0 : Int)) && ((((playF P_ ([])).2.1.length : Nat) : Int) == (3 : Int))) && (((playF P_ ([])).1.getD (0) 0) == a))) rfl) ?_
   simp only [N]
   refine wl_g (wn_t rfl rfl) (v := .pointer (some ⟨b9, 0, none⟩)) (fun hg => rp_fieldAddr rfl Tryz.underlying65 rfl 0 rfl sz63 rfl (0) rfl) ?_
   simp only [N]
   refine wl_g (wn_t rfl rfl) (v := .pointer (some ⟨b9, 0, none⟩)) (fun hg => by have x82 : (playF P_ ([])).2.2 = (0 : Int) := (by simpa using (andl (andl hg))); have x83 : (((playF P_ ([])).2.1.length : Nat) : Int) = (3 : Int) := (by simpa using (andr (andl hg))); have x84 : (((playF P_ ([])).1.getD (0) 0)).toNat = (a).toNat := u8_eq (andr hg); exact (by simp only [gv_t hg]; exact rp_indexAddr_arr rfl Tryz.underlying63 sz30 rfl 0 rfl (by omega) (0) (by omega))) ?_
   simp only [N]
   refine wl_g (wn_t rfl rfl) (v := .pointer (some ⟨b9, 1, none⟩)) (fun hg => by have x85 : (playF P_ ([])).2.2 = (0 : Int) := (by simpa using (andl (andl hg))); have x86 : (((playF P_ ([])).2.1.length : Nat) : Int) = (3 : Int) := (by simpa using (andr (andl hg))); have x87 : (((playF P_ ([])).1.getD (0) 0)).toNat = (a).toNat := u8_eq (andr hg); exact (by simp only [gv_t hg]; exact rp_indexAddr_arr rfl Tryz.underlying30 sz5 rfl 1 rfl (by omega) (1) (by omega))) ?_
   simp only [N]
   refine wl_g (wn_t rfl rfl) (v := bv ((playF P_ ([])).1.getD (1) 0)) (fun hg => by have x88 : (playF P_ ([])).2.2 = (0 : Int) := (by simpa using (andl (andl hg))); have x89 : (((playF P_ ([])).2.1.length : Nat) : Int) = (3 : Int) := (by simpa using (andr (andl hg))); have x90 : (((playF P_ ([])).1.getD (0) 0)).toNat = (a).toNat := u8_eq (andr hg); exact (by simp only [gv_t hg]; exact rp_load1e H 0 rfl rfl rfl Tryz.underlying5 rfl (1) rfl (by first | omega | (simp [-List.reduceReplicate]; done) | (simp [-List.reduceReplicate]; omega) | (simp [*, -List.reduceReplicate]; done) | (simp [*, -List.reduceReplicate]; omega)))) ?_
   simp only [N]
   refine wl_g (wn_t rfl rfl) (v := bv b) (fun hg => rp_move rfl (v := bv b) rfl) ?_
   simp only [N]
   refine wl_g (wn_t rfl rfl) (v := bv (((playF P_ ([])).1.getD (1) 0) - b)) (fun hg => by have x94 : (playF P_ ([])).2.2 = (0 : Int) := (by simpa using (andl (andl hg))); have x95 : (((playF P_ ([])).2.1.length : Nat) : Int) = (3 : Int) := (by simpa using (andr (andl hg))); have x96 : (((playF P_ ([])).1.getD (0) 0)).toNat = (a).toNat := u8_eq (andr hg); exact (by simp only [gv_t hg]; exact rp_u8_sub rfl ((playF P_ ([])).1.getD (1) 0) b rfl rfl)) ?_
   simp only [N]
   refine wl_g (wn_t rfl rfl) (v := bv a) (fun hg => rp_move rfl (v := bv a) rfl) ?_
   simp only [N]
   refine wl_g (wn_t rfl rfl) (v := .bool ((((playF P_ ([])).1.getD (1) 0) - b) == a)) (fun hg => by have x100 : (playF P_ ([])).2.2 = (0 : Int) := (by simpa using (andl (andl hg))); have x101 : (((playF P_ ([])).2.1.length : Nat) : Int) = (3 : Int) := (by simpa using (andr (andl hg))); have x102 : (((playF P_ ([])).1.getD (0) 0)).toNat = (a).toNat := u8_eq (andr hg); exact (by simp only [gv_t hg]; exact rp_u8_eql rfl (((playF P_ ([])).1.getD (1) 0) - b) a rfl rfl)) ?_
   simp only [N]
   refine wl_run rfl (rp_pickA rfl (p := ((((playF P_ ([])).2.2 == (0 : Int)) && ((((playF P_ ([])).2.1.length : Nat) : Int) == (3 : Int))) && (((playF P_ ([])).1.getD (0) 0) == a))) (q := ((((playF P_ ([])).1.getD (1) 0) - b) == a)) rfl rfl rfl) ?_
   simp only [N]
   refine wl_run rfl (rp_move rfl (v := .bool (((((playF P_ ([])).2.2 == (0 : Int)) && ((((playF P_ ([])).2.1.length : Nat) : Int) == (3 : Int))) && (((playF P_ ([])).1.getD (0) 0) == a)) && ((((playF P_ ([])).1.getD (1) 0) - b) == a))) rfl) ?_
   simp only [N]
   refine wl_g (wn_t rfl rfl) (v := .pointer (some ⟨b9, 0, none⟩)) (fun hg => rp_fieldAddr rfl Tryz.underlying65 rfl 0 rfl sz63 rfl (0) rfl) ?_
   simp only [N]
   refine wl_g (wn_t rfl rfl) (v := .pointer (some ⟨b9, 0, none⟩)) (fun hg => by have x107 : (playF P_ ([])).2.2 = (0 : Int) := (by simpa using (andl (andl (andl hg)))); have x108 : (((playF P_ ([])).2.1.length : Nat) : Int) = (3 : Int) := (by simpa using (andr (andl (andl hg)))); have x109 : (((playF P_ ([])).1.getD (0) 0)).toNat = (a).toNat := u8_eq (andr (andl hg)); have x110 : ((((playF P_ ([])).1.getD (1) 0) - b)).toNat = (a).toNat := u8_eq (andr hg); exact (by simp only [gv_t hg]; exact rp_indexAddr_arr rfl Tryz.underlying63 sz30 rfl 0 rfl (by omega) (0) (by omega))) ?_
   simp only [N]
   refine wl_g (wn_t rfl rfl) (v := .pointer (some ⟨b9, 2, none⟩)) (fun hg => by have x111 : (playF P_ ([])).2.2 = (0 : Int) := (by simpa using (andl (andl (andl hg)))); have x112 : (((playF P_ ([])).2.1.length : Nat) : Int) = (3 : Int) := (by simpa using (andr (andl (andl hg)))); have x113 : (((playF P_ ([])).1.getD (0) 0)).toNat = (a).toNat := u8_eq (andr (andl hg)); have x114 : ((((playF P_ ([])).1.getD (1) 0) - b)).toNat = (a).toNat := u8_eq (andr hg); exact (by simp only [gv_t hg]; exact rp_indexAddr_arr rfl Tryz.underlying30 sz5 rfl 2 rfl (by omega) (2) (by omega))) ?_
   simp only [N]
   refine wl_g (wn_t rfl rfl) (v := bv ((playF P_ ([])).1.getD (2) 0)) (fun hg => by have x115 : (playF P_ ([])).2.2 = (0 : Int) := (by simpa using (andl (andl (andl hg)))); have x116 : (((playF P_ ([])).2.1.length : Nat) : Int) = (3 : Int) := (by simpa using (andr (andl (andl hg)))); have x117 : (((playF P_ ([])).1.getD (0) 0)).toNat = (a).toNat := u8_eq (andr (andl hg)); have x118 : ((((playF P_ ([])).1.getD (1) 0) - b)).toNat = (a).toNat := u8_eq (andr hg); exact (by simp only [gv_t hg]; exact rp_load1e H 0 rfl rfl rfl Tryz.underlying5 rfl (2) rfl (by first | omega | (simp [-List.reduceReplicate]; done) | (simp [-List.reduceReplicate]; omega) | (simp [*, -List.reduceReplicate]; done) | (simp [*, -List.reduceReplicate]; omega)))) ?_
   simp only [N]
   refine wl_g (wn_t rfl rfl) (v := bv c) (fun hg => rp_move rfl (v := bv c) rfl) ?_
   simp only [N]
   refine wl_g (wn_t rfl rfl) (v := .bool (((playF P_ ([])).1.getD (2) 0) == c)) (fun hg => by have x123 : (playF P_ ([])).2.2 = (0 : Int) := (by simpa using (andl (andl (andl hg)))); have x124 : (((playF P_ ([])).2.1.length : Nat) : Int) = (3 : Int) := (by simpa using (andr (andl (andl hg)))); have x125 : (((playF P_ ([])).1.getD (0) 0)).toNat = (a).toNat := u8_eq (andr (andl hg)); have x126 : ((((playF P_ ([])).1.getD (1) 0) - b)).toNat = (a).toNat := u8_eq (andr hg); exact (by simp only [gv_t hg]; exact rp_u8_eql rfl ((playF P_ ([])).1.getD (2) 0) c rfl rfl)) ?_
   simp only [N]
   refine wl_run rfl (rp_pickA rfl (p := (((((playF P_ ([])).2.2 == (0 : Int)) && ((((playF P_ ([])).2.1.length : Nat) : Int) == (3 : Int))) && (((playF P_ ([])).1.getD (0) 0) == a)) && ((((playF P_ ([])).1.getD (1) 0) - b) == a))) (q := (((playF P_ ([])).1.getD (2) 0) == c)) rfl rfl rfl) ?_
   simp only [N]
   refine wl_run rfl (rp_move rfl (v := .bool ((((((playF P_ ([])).2.2 == (0 : Int)) && ((((playF P_ ([])).2.1.length : Nat) : Int) == (3 : Int))) && (((playF P_ ([])).1.getD (0) 0) == a)) && ((((playF P_ ([])).1.getD (1) 0) - b) == a)) && (((playF P_ ([])).1.getD (2) 0) == c))) rfl) ?_
   simp only [N]
   refine wl_g (wn_t rfl rfl) (v := .pointer (some ⟨b9, 32, none⟩)) (fun hg => rp_fieldAddr rfl Tryz.underlying65 rfl 32 rfl sz34 rfl (32) rfl) ?_
   simp only [N]
   refine wl_g (wn_t rfl rfl) (v := .pointer (some ⟨b9, 32, none⟩)) (fun hg => by have x132 : (playF P_ ([])).2.2 = (0 : Int) := (by simpa using (andl (andl (andl (andl hg))))); have x133 : (((playF P_ ([])).2.1.length : Nat) : Int) = (3 : Int) := (by simpa using (andr (andl (andl (andl hg))))); have x134 : (((playF P_ ([])).1.getD (0) 0)).toNat = (a).toNat := u8_eq (andr (andl (andl hg))); have x135 : ((((playF P_ ([])).1.getD (1) 0) - b)).toNat = (a).toNat := u8_eq (andr (andl hg)); have x136 : (((playF P_ ([])).1.getD (2) 0)).toNat = (c).toNat := u8_eq (andr hg); exact (by simp only [gv_t hg]; exact rp_indexAddr_arr rfl Tryz.underlying34 sz5 rfl 0 rfl (by omega) (32) (by omega))) ?_
   simp only [N]
   refine wl_g (wn_t rfl rfl) (v := bv ((playF P_ ([])).1.getD (32) 0)) (fun hg => by have x137 : (playF P_ ([])).2.2 = (0 : Int) := (by simpa using (andl (andl (andl (andl hg))))); have x138 : (((playF P_ ([])).2.1.length : Nat) : Int) = (3 : Int) := (by simpa using (andr (andl (andl (andl hg))))); have x139 : (((playF P_ ([])).1.getD (0) 0)).toNat = (a).toNat := u8_eq (andr (andl (andl hg))); have x140 : ((((playF P_ ([])).1.getD (1) 0) - b)).toNat = (a).toNat := u8_eq (andr (andl hg)); have x141 : (((playF P_ ([])).1.getD (2) 0)).toNat = (c).toNat := u8_eq (andr hg); exact (by simp only [gv_t hg]; exact rp_load1e H 0 rfl rfl rfl Tryz.underlying5 rfl (32) rfl (by first | omega | (simp [-List.reduceReplicate]; done) | (simp [-List.reduceReplicate]; omega) | (simp [*, -List.reduceReplicate]; done) | (simp [*, -List.reduceReplicate]; omega)))) ?_
   simp only [N]
   refine wl_g (wn_t rfl rfl) (v := bv b28) (fun hg => rp_move rfl (v := bv b28) rfl) ?_
   simp only [N]
   refine wl_g (wn_t rfl rfl) (v := .bool (((playF P_ ([])).1.getD (32) 0) == b28)) (fun hg => by have x147 : (playF P_ ([])).2.2 = (0 : Int) := (by simpa using (andl (andl (andl (andl hg))))); have x148 : (((playF P_ ([])).2.1.length : Nat) : Int) = (3 : Int) := (by simpa using (andr (andl (andl (andl hg))))); have x149 : (((playF P_ ([])).1.getD (0) 0)).toNat = (a).toNat := u8_eq (andr (andl (andl hg))); have x150 : ((((playF P_ ([])).1.getD (1) 0) - b)).toNat = (a).toNat := u8_eq (andr (andl hg)); have x151 : (((playF P_ ([])).1.getD (2) 0)).toNat = (c).toNat := u8_eq (andr hg); exact (by simp only [gv_t hg]; exact rp_u8_eql rfl ((playF P_ ([])).1.getD (32) 0) b28 rfl rfl)) ?_
   simp only [N]
   refine wl_run rfl (rp_pickA rfl (p := ((((((playF P_ ([])).2.2 == (0 : Int)) && ((((playF P_ ([])).2.1.length : Nat) : Int) == (3 : Int))) && (((playF P_ ([])).1.getD (0) 0) == a)) && ((((playF P_ ([])).1.getD (1) 0) - b) == a)) && (((playF P_ ([])).1.getD (2) 0) == c))) (q := (((playF P_ ([])).1.getD (32) 0) == b28)) rfl rfl rfl) ?_
   simp only [N]
   refine wl_run rfl (rp_move rfl (v := .bool (((((((playF P_ ([])).2.2 == (0 : Int)) && ((((playF P_ ([])).2.1.length : Nat) : Int) == (3 : Int))) && (((playF P_ ([])).1.getD (0) 0) == a)) && ((((playF P_ ([])).1.getD (1) 0) - b) == a)) && (((playF P_ ([])).1.getD (2) 0) == c)) && (((playF P_ ([])).1.getD (32) 0) == b28))) rfl) ?_
   simp only [N]
   refine wl_gE H (wn_t rfl rfl) (fun hg => rc_go Tryz.func13 (by kernel_rfl) rfl) (v := .bool true) (fun hg => by have x152 : (playF P_ ([])).2.2 = (0 : Int) := (by simpa using (andl (andl (andl (andl (andl hg)))))); have x153 : (((playF P_ ([])).2.1.length : Nat) : Int) = (3 : Int) := (by simpa using (andr (andl (andl (andl (andl hg)))))); have x154 : (((playF P_ ([])).1.getD (0) 0)).toNat = (a).toNat := u8_eq (andr (andl (andl (andl hg)))); have x155 : ((((playF P_ ([])).1.getD (1) 0) - b)).toNat = (a).toNat := u8_eq (andr (andl (andl hg))); have x156 : (((playF P_ ([])).1.getD (2) 0)).toNat = (c).toNat := u8_eq (andr (andl hg)); have x157 : (((playF P_ ([])).1.getD (32) 0)).toNat = (b28).toNat := u8_eq (andr hg); exact (awake_spec _ (H.ro_at 7 rfl))) ?_
   clear H; intro w22 H
   simp only [N]
   refine wl_run rfl (rp_pickA rfl (p := (((((((playF P_ ([])).2.2 == (0 : Int)) && ((((playF P_ ([])).2.1.length : Nat) : Int) == (3 : Int))) && (((playF P_ ([])).1.getD (0) 0) == a)) && ((((playF P_ ([])).1.getD (1) 0) - b) == a)) && (((playF P_ ([])).1.getD (2) 0) == c)) && (((playF P_ ([])).1.getD (32) 0) == b28))) (q := true) rfl rfl rfl) ?_
   simp only [N]
   refine wl_run rfl (rp_assign rfl (v := .bool ((((((((playF P_ ([])).2.2 == (0 : Int)) && ((((playF P_ ([])).2.1.length : Nat) : Int) == (3 : Int))) && (((playF P_ ([])).1.getD (0) 0) == a)) && ((((playF P_ ([])).1.getD (1) 0) - b) == a)) && (((playF P_ ([])).1.getD (2) 0) == c)) && (((playF P_ ([])).1.getD (32) 0) == b28)) && true)) rfl) ?_
   simp only [N]
   refine wpList_nil ?_
   refine wp_ret ?_
   try simp only [Exit.inBlock, Exit.then, cutP]
   refine bodyPost_ret (results1 rfl (rv_tmp rfl)) rfl ?_
   have hF : (sumsF a b c skip P_) = ((((((((playF P_ ([])).2.2 == (0 : Int)) && ((((playF P_ ([])).2.1.length : Nat) : Int) == (3 : Int))) && (((playF P_ ([])).1.getD (0) 0) == a)) && ((((playF P_ ([])).1.getD (1) 0) - b) == a)) && (((playF P_ ([])).1.getD (2) 0) == c)) && (((playF P_ ([])).1.getD (32) 0) == b28)) && true) := hFb
   rw [hF]
   exact ⟨rfl, H.ext⟩

end Go.Proofs.YtpnaooajmdildaaGreatDoor
