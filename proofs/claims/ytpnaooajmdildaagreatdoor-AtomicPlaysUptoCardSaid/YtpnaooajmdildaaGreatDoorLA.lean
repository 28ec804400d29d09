/- Walks, printed by a program of this repository (wip/tool). -/
import Derived.Test.YtpnaooajmdildaaGreatDoorAt8
namespace Go.Proofs.YtpnaooajmdildaaGreatDoor
open Go.RowKit
open Go
attribute [local irreducible] wpList wpQuiet wpX Code.wp
set_option maxHeartbeats 1000000
set_option maxRecDepth 100000
set_option linter.unusedSimpArgs false
set_option linter.unusedVariables false

def stillF (i : Ins) : Bool :=
  (((i.op == (3 : UInt8)) || (i.op == (8 : UInt8))) || (i.op == (7 : UInt8)))


theorem stillF_spec (i : Ins) (w : World) :
    Calls Tryz.prog 15 #[.agg i.cells.toArray] w fun e w' => e = .returned (.bool ((stillF i))) ∧ Ext w w' := by
 have H := Own.start w
 go_enter Tryz.func15, Tryz.ntmps15
 refine wp_seq ?_
 refine wp_region_lit ?_
 refine wl_box H rfl rfl (v := .agg (i.cells).toArray) rfl ?_
 clear H; intro b1 w1 hnb1 H; dsimp only [Value.cells] at H
 simp only [N]
 refine wl_run rfl (rp_assign rfl (v := .bool false) rfl) ?_
 simp only [N]
 refine wpList_nil ?_
 refine wp_seq ?_
 refine wp_region_lit ?_
 refine wl_run rfl (rp_fieldAddr rfl Tryz.underlying52 rfl 0 rfl sz5 rfl (0) rfl) ?_
 simp only [N]
 refine wl_run rfl (rp_load1 H 0 rfl rfl rfl Tryz.underlying5 rfl (v := bv i.op) rfl) ?_
 simp only [N]
 refine wl_run rfl (rp_u8_eql rfl i.op (3 : UInt8) rfl rfl) ?_
 simp only [N]
 refine wl_run rfl (rp_move rfl (v := .bool (i.op == (3 : UInt8))) rfl) ?_
 simp only [N]
 refine wl_g (wn_f rfl rfl) (v := .pointer (some ⟨b1, 0, none⟩)) (fun hg => rp_fieldAddr rfl Tryz.underlying52 rfl 0 rfl sz5 rfl (0) rfl) ?_
 simp only [N]
 refine wl_g (wn_f rfl rfl) (v := bv i.op) (fun hg => by have x2 : (i.op).toNat ≠ 3 := u8_ne (notT hg); exact (by simp only [gv_t hg]; exact rp_load1 H 0 rfl rfl rfl Tryz.underlying5 rfl (v := bv i.op) rfl)) ?_
 simp only [N]
 refine wl_g (wn_f rfl rfl) (v := .bool (i.op == (8 : UInt8))) (fun hg => by have x3 : (i.op).toNat ≠ 3 := u8_ne (notT hg); exact (by simp only [gv_t hg]; exact rp_u8_eql rfl i.op (8 : UInt8) rfl rfl)) ?_
 simp only [N]
 refine wl_run rfl (rp_pickO rfl (p := (i.op == (3 : UInt8))) (q := (i.op == (8 : UInt8))) rfl rfl rfl) ?_
 simp only [N]
 refine wl_run rfl (rp_move rfl (v := .bool ((i.op == (3 : UInt8)) || (i.op == (8 : UInt8)))) rfl) ?_
 simp only [N]
 refine wl_g (wn_f rfl rfl) (v := .pointer (some ⟨b1, 0, none⟩)) (fun hg => rp_fieldAddr rfl Tryz.underlying52 rfl 0 rfl sz5 rfl (0) rfl) ?_
 simp only [N]
 refine wl_g (wn_f rfl rfl) (v := bv i.op) (fun hg => by have x6 : (i.op).toNat ≠ 3 := u8_ne (orl (notT hg)); have x7 : (i.op).toNat ≠ 8 := u8_ne (orr (notT hg)); exact (by simp only [gv_t hg]; exact rp_load1 H 0 rfl rfl rfl Tryz.underlying5 rfl (v := bv i.op) rfl)) ?_
 simp only [N]
 refine wl_g (wn_f rfl rfl) (v := .bool (i.op == (7 : UInt8))) (fun hg => by have x8 : (i.op).toNat ≠ 3 := u8_ne (orl (notT hg)); have x9 : (i.op).toNat ≠ 8 := u8_ne (orr (notT hg)); exact (by simp only [gv_t hg]; exact rp_u8_eql rfl i.op (7 : UInt8) rfl rfl)) ?_
 simp only [N]
 refine wl_run rfl (rp_pickO rfl (p := ((i.op == (3 : UInt8)) || (i.op == (8 : UInt8)))) (q := (i.op == (7 : UInt8))) rfl rfl rfl) ?_
 simp only [N]
 refine wl_run rfl (rp_assign rfl (v := .bool (((i.op == (3 : UInt8)) || (i.op == (8 : UInt8))) || (i.op == (7 : UInt8)))) rfl) ?_
 simp only [N]
 refine wpList_nil ?_
 refine wp_ret ?_
 try simp only [Exit.inBlock, Exit.then, cutP]
 refine bodyPost_ret (results1 rfl (rv_tmp rfl)) rfl ?_
 have hF : (stillF i) = (((i.op == (3 : UInt8)) || (i.op == (8 : UInt8))) || (i.op == (7 : UInt8))) := rfl
 rw [hF]
 exact ⟨rfl, H.ext⟩

def intsF_a (b : List Int) (xra : Int) (ra : Nat → Bool) : Nat → Bool := fun s_ => match s_ with | a13 => bif (xra != (b.getD (a13) default)) then false else (ra (a13 + 1))
def intsF_ak : Nat → Bool := fun s_ => match s_ with | a13 => true
def intsF (a : List Int) (b : List Int) : Bool :=
  bif (((a.length : Nat) : Int) != ((b.length : Nat) : Int)) then false else (loopL (intsF_a b) intsF_ak a 0)


theorem intsF_spec (a : Sl Int) (b : Sl Int) (w : World) (ha : (SlIn 1 eInt a) w) (hb : (SlIn 1 eInt b) w) :
    Calls Tryz.prog 28 #[a.val, b.val] w fun e w' => e = .returned (.bool ((intsF a.l b.l))) ∧ Ext w w' := by
 have H := Own.start_ro w [SlIn 1 eInt a, SlIn 1 eInt b] (List.forall_mem_cons.2 ⟨fun w' hw => ha.keep hw, List.forall_mem_cons.2 ⟨fun w' hw => hb.keep hw, fun _ h => by cases h⟩⟩)
 have hca := ha.2.2
 have hcb := hb.2.2
 go_enter Tryz.func28, Tryz.ntmps28
 refine wp_seq ?_
 refine wp_region_lit ?_
 refine wl_run rfl (rp_assign rfl (v := .bool false) rfl) ?_
 simp only [N]
 refine wpList_nil ?_
 refine wp_seq ?_
 refine wp_seq ?_
 refine wp_region_lit ?_
 refine wl_run rfl (rp_move rfl (v := a.val) rfl) ?_
 simp only [N]
 refine wl_run rfl (rp_len_sl (s := a) Tryz.underlying44 rfl) ?_
 simp only [N]
 refine wl_run rfl (rp_move rfl (v := b.val) rfl) ?_
 simp only [N]
 refine wl_run rfl (rp_len_sl (s := b) Tryz.underlying44 rfl) ?_
 simp only [N]
 refine wl_run rfl (rp_int_neq rfl ((a.l.length : Nat) : Int) ((b.l.length : Nat) : Int) rfl rfl) ?_
 simp only [N]
 refine wpList_nil ?_
 refine wp_cond_split rfl (fun hc1 => ?_) (fun hc1 => ?_)
 · --T 1
  have hc1N1 : ((a.l.length : Nat) : Int) ≠ ((b.l.length : Nat) : Int) := (by simpa using hc1)
  refine wp_seq ?_
  refine wp_region_lit ?_
  refine wl_run rfl (rp_assign rfl (v := .bool false) rfl) ?_
  simp only [N]
  refine wpList_nil ?_
  refine wp_ret ?_
  try simp only [Exit.inBlock, Exit.then, cutP]
  refine bodyPost_ret (results1 rfl (rv_tmp rfl)) rfl ?_
  have hF : (intsF a.l b.l) = false := bt hc1
  rw [hF]
  exact ⟨rfl, H.ext⟩
 · --F 1
  have hc1N2 : ((a.l.length : Nat) : Int) = ((b.l.length : Nat) : Int) := (by simpa using hc1)
  refine wp_skip ?_
  refine wp_seq ?_
  refine wp_seq ?_
  refine wp_region_lit ?_
  refine wl_run rfl (rp_move rfl (v := a.val) rfl) ?_
  simp only [N]
  refine wl_run rfl (rp_len_sl (s := a) Tryz.underlying44 rfl) ?_
  simp only [N]
  refine wl_run rfl (rp_move rfl (v := iv (0 : Int)) rfl) ?_
  simp only [N]
  refine wpList_nil ?_
  refine wp_block ?_
  refine wp_loopX (fun m' a' w' => ∃ (a13 : Nat) (u4 u5 u14 u15 u16 u17 u18 u19 u20 u21 u22 u23 u24 u25 : Value), a' = ⟨#[a.val, b.val, undef, undef, u4, u5, a.val, iv ((a.l.length : Nat) : Int), b.val, iv ((b.l.length : Nat) : Int), .bool (((a.l.length : Nat) : Int) != ((b.l.length : Nat) : Int)), a.val, iv ((a.l.length : Nat) : Int), iv ((a13 : Nat) : Int), u14, u15, u16, u17, u18, u19, u20, u21, u22, u23, u24, u25], []⟩ ∧ Own w [] [SlIn 1 eInt a, SlIn 1 eInt b] [] w' ∧ (a13 ≤ a.l.length) ∧ (intsF a.l b.l) = loopL (intsF_a b.l) intsF_ak (a.l.drop a13) a13 ∧ m' = a.l.length - a13) _ ⟨0, _, _, _, _, _, _, _, _, _, _, _, _, _, _, rfl, H, (by omega), bf hc1, rfl⟩ ?_
  clear H
  rintro _ _ w1 ⟨a13, u4, u5, u14, u15, u16, u17, u18, u19, u20, u21, u22, u23, u24, u25, rfl, H, hia0, hFa, rfl⟩
  refine wp_seq ?_
  refine wp_region_lit ?_
  refine wl_run rfl (rp_int_lss rfl ((a13 : Nat) : Int) ((a.l.length : Nat) : Int) rfl rfl) ?_
  simp only [N]
  refine wpList_nil ?_
  refine wp_seq ?_
  refine wp_cond_split rfl (fun hc2 => ?_) (fun hc2 => ?_)
  · --T 2
   have hc2N3 : ((a13 : Nat) : Int) < ((a.l.length : Nat) : Int) := (by simpa using hc2)
   obtain ⟨ra, hra⟩ : ∃ r, r = loopL (intsF_a b.l) intsF_ak (a.l.drop (a13 + 1)) := ⟨_, rfl⟩
   have hFa2 := hFa.trans (loopL_step (show a13 < a.l.length by omega))
   rw [← hra] at hFa2
   refine wp_skip ?_
   refine wp_seq ?_
   refine wp_block ?_
   refine wp_seq ?_
   refine wp_region_lit ?_
   refine wl_run rfl (rp_move rfl (v := iv ((a13 : Nat) : Int)) rfl) ?_
   simp only [N]
   refine wl_run rfl (rp_assign rfl (v := iv ((a13 : Nat) : Int)) rfl) ?_
   simp only [N]
   refine wpList_nil ?_
   refine wp_seq ?_
   refine wp_region_own H (by kernel_rfl) (by kernel_rfl) ?_
   refine wq_run rfl (fun w H => rp_move rfl (v := a.val) rfl) ?_
   simp only [N]
   refine wq_run rfl (fun w H => rp_move rfl (v := iv ((a13 : Nat) : Int)) rfl) ?_
   simp only [N]
   refine wq_run rfl (fun w H => rp_indexAddr_sl (((H.ro_at 0 rfl))) rfl Tryz.underlying44 sz3 rfl a13 rfl (by omega)) ?_
   simp only [N]
   refine wq_run rfl (fun w H => rp_load1_sl (((H.ro_at 0 rfl))) (a13) (by omega) rfl Tryz.underlying3 rfl 0 rfl (by omega) (v := iv (a.l.getD (a13) default)) rfl) ?_
   simp only [N]
   refine wq_run rfl (fun w H => rp_move rfl (v := b.val) rfl) ?_
   simp only [N]
   refine wq_run rfl (fun w H => rp_move rfl (v := iv ((a13 : Nat) : Int)) rfl) ?_
   simp only [N]
   refine wq_run rfl (fun w H => rp_indexAddr_sl (((H.ro_at 1 rfl))) rfl Tryz.underlying44 sz3 rfl a13 rfl (by omega)) ?_
   simp only [N]
   refine wq_run rfl (fun w H => rp_load1_sl (((H.ro_at 1 rfl))) (a13) (by omega) rfl Tryz.underlying3 rfl 0 rfl (by omega) (v := iv (b.l.getD (a13) default)) rfl) ?_
   simp only [N]
   refine wq_run rfl (fun w H => rp_int_neq rfl (a.l.getD (a13) default) (b.l.getD (a13) default) rfl rfl) ?_
   simp only [N]
   refine wq_nil ?_
   clear H; intro w2 H
   refine wp_cond_split rfl (fun hc3 => ?_) (fun hc3 => ?_)
   · --T 3
    have hc3N4 : (a.l.getD (a13) default) ≠ (b.l.getD (a13) default) := (by simpa using hc3)
    refine wp_seq ?_
    refine wp_region_lit ?_
    refine wl_run rfl (rp_assign rfl (v := .bool false) rfl) ?_
    simp only [N]
    refine wpList_nil ?_
    refine wp_ret ?_
    try simp only [Exit.inBlock, Exit.then, cutP]
    refine bodyPost_ret (results1 rfl (rv_tmp rfl)) rfl ?_
    have hF : (intsF a.l b.l) = false := (hFa2).trans (bt hc3)
    rw [hF]
    exact ⟨rfl, H.ext⟩
   · --F 3
    have hc3N5 : (a.l.getD (a13) default) = (b.l.getD (a13) default) := (by simpa using hc3)
    refine wp_skip ?_
    refine wp_region_lit ?_
    refine wl_run rfl (rp_int_add rfl ((a13 : Nat) : Int) (1 : Int) rfl rfl (by omega)) ?_
    simp only [N]
    refine wl_run rfl (rp_move rfl (v := iv (((a13 : Nat) : Int) + (1 : Int))) rfl) ?_
    simp only [N]
    refine wpList_nil ?_
    show ∃ n', n' < _ ∧ _
    refine ⟨_, ?_, (a13 + 1), _, _, _, _, _, _, _, _, _, _, _, _, _, _, rfl, H, (by omega), ((hFa2).trans (bf hc3)).trans (congrFun hra _), rfl⟩
    omega
  · --F 2
   have hc2N6 : ((a.l.length : Nat) : Int) ≤ ((a13 : Nat) : Int) := (by simpa using hc2)
   have hFa2 := hFa.trans (loopL_end (show a.l.length ≤ a13 by omega))
   refine wp_exit ?_
   refine wp_seq ?_
   refine wp_region_lit ?_
   refine wl_run rfl (rp_assign rfl (v := .bool true) rfl) ?_
   simp only [N]
   refine wpList_nil ?_
   refine wp_ret ?_
   try simp only [Exit.inBlock, Exit.then, cutP]
   refine bodyPost_ret (results1 rfl (rv_tmp rfl)) rfl ?_
   have hF : (intsF a.l b.l) = true := hFa2
   rw [hF]
   exact ⟨rfl, H.ext⟩

def bufF_q1 (b2 b3 b6 b4 b5 : Nat) : Prog := ⟨(⟨#[115, 98]⟩ : ByteArray), (⟨some ⟨b2, 0, none⟩, 2, [(⟨#[120]⟩ : ByteArray), (⟨#[121]⟩ : ByteArray)]⟩ : Sl ByteArray), (⟨some ⟨b3, 0, none⟩, 2, [(0 : UInt8), (0 : UInt8)]⟩ : Sl UInt8), (⟨some ⟨b6, 0, none⟩, 2, [(⟨some ⟨b4, 0, none⟩, 2, [(⟨(2 : UInt8), (0 : UInt8), (0 : UInt8), ⟨false, (1 : UInt8)⟩, ⟨false, (0 : UInt8)⟩, (0 : UInt8), (0 : UInt8), (0 : UInt8)⟩ : Ins), (⟨(1 : UInt8), (0 : UInt8), (1 : UInt8), ⟨false, (0 : UInt8)⟩, ⟨false, (0 : UInt8)⟩, (0 : UInt8), (0 : UInt8), (0 : UInt8)⟩ : Ins)]⟩ : Sl Ins), (⟨some ⟨b5, 0, none⟩, 2, [(⟨(2 : UInt8), (0 : UInt8), (1 : UInt8), ⟨false, (1 : UInt8)⟩, ⟨false, (0 : UInt8)⟩, (0 : UInt8), (0 : UInt8), (0 : UInt8)⟩ : Ins), (⟨(1 : UInt8), (0 : UInt8), (0 : UInt8), ⟨false, (0 : UInt8)⟩, ⟨false, (0 : UInt8)⟩, (0 : UInt8), (0 : UInt8), (0 : UInt8)⟩ : Ins)]⟩ : Sl Ins)]⟩ : Sl (Sl Ins)), (1 : UInt8), .mk (0 : UInt8) (0 : UInt8) (0 : UInt8) (0 : UInt8) none 0 []⟩
theorem bufF_spec (w : World) :
    Calls Tryz.prog 43 #[] w fun e w' => ∃ x : Nat × Nat × Nat × Nat × Nat, e = .returned (.agg ((bufF_q1 x.1 x.2.1 x.2.2.1 x.2.2.2.1 x.2.2.2.2).cells).toArray) ∧ Ext w w' ∧ Fresh w w' (IsProg (bufF_q1 x.1 x.2.1 x.2.2.1 x.2.2.2.1 x.2.2.2.2)) := by
 have H := Own.start w
 go_enter Tryz.func43, Tryz.ntmps43
 refine wp_seq ?_
 refine wp_region_lit ?_
 refine wl_alloc H rfl rfl zv29 ?_
 clear H; intro b1 w1 hnb1 H; dsimp only [Value.cells] at H
 simp only [N]
 refine wpList_nil ?_
 refine wp_seq ?_
 refine wp_region_lit ?_
 refine wl_xallocF H rfl (xa_buildSlice rfl Tryz.underlying22 sz9 zv9 (by decide) (by decide) (vs := [(0, .string (⟨#[120]⟩ : ByteArray)), (1, .string (⟨#[121]⟩ : ByteArray))]) rfl (cs := #[.string (⟨#[120]⟩ : ByteArray), .string (⟨#[121]⟩ : ByteArray)]) (by kernel_rfl)) ?_
 clear H; intro b2 w2 hnb2 H
 simp only [N]
 refine wl_xallocF H rfl (xa_buildSlice rfl Tryz.underlying23 sz5 zv5 (by decide) (by decide) (vs := [(0, bv (0 : UInt8)), (1, bv (0 : UInt8))]) rfl (cs := #[bv (0 : UInt8), bv (0 : UInt8)]) (by kernel_rfl)) ?_
 clear H; intro b3 w3 hnb3 H
 simp only [N]
 refine wl_run rfl (rp_build rfl (vs := [(1, bv (1 : UInt8))]) rfl (cs := #[.bool false, bv (1 : UInt8)]) (by kernel_rfl)) ?_
 simp only [N]
 refine wl_run rfl (rp_build rfl (vs := [(0, bv (2 : UInt8)), (2, bv (0 : UInt8)), (3, .agg #[.bool false, bv (1 : UInt8)])]) rfl (cs := #[bv (2 : UInt8), bv (0 : UInt8), bv (0 : UInt8), .bool false, bv (1 : UInt8), .bool false, bv (0 : UInt8), bv (0 : UInt8), bv (0 : UInt8), bv (0 : UInt8)]) (by kernel_rfl)) ?_
 simp only [N]
 refine wl_run rfl (rp_build rfl (vs := [(0, bv (1 : UInt8)), (2, bv (1 : UInt8))]) rfl (cs := #[bv (1 : UInt8), bv (0 : UInt8), bv (1 : UInt8), .bool false, bv (0 : UInt8), .bool false, bv (0 : UInt8), bv (0 : UInt8), bv (0 : UInt8), bv (0 : UInt8)]) (by kernel_rfl)) ?_
 simp only [N]
 refine wl_xallocF H rfl (xa_buildSlice rfl Tryz.underlying53 sz52 zv52 (by decide) (by decide) (vs := [(0, .agg #[bv (2 : UInt8), bv (0 : UInt8), bv (0 : UInt8), .bool false, bv (1 : UInt8), .bool false, bv (0 : UInt8), bv (0 : UInt8), bv (0 : UInt8), bv (0 : UInt8)]), (1, .agg #[bv (1 : UInt8), bv (0 : UInt8), bv (1 : UInt8), .bool false, bv (0 : UInt8), .bool false, bv (0 : UInt8), bv (0 : UInt8), bv (0 : UInt8), bv (0 : UInt8)])]) rfl (cs := #[bv (2 : UInt8), bv (0 : UInt8), bv (0 : UInt8), .bool false, bv (1 : UInt8), .bool false, bv (0 : UInt8), bv (0 : UInt8), bv (0 : UInt8), bv (0 : UInt8), bv (1 : UInt8), bv (0 : UInt8), bv (1 : UInt8), .bool false, bv (0 : UInt8), .bool false, bv (0 : UInt8), bv (0 : UInt8), bv (0 : UInt8), bv (0 : UInt8)]) (by kernel_rfl)) ?_
 clear H; intro b4 w4 hnb4 H
 simp only [N]
 refine wl_run rfl (rp_build rfl (vs := [(1, bv (1 : UInt8))]) rfl (cs := #[.bool false, bv (1 : UInt8)]) (by kernel_rfl)) ?_
 simp only [N]
 refine wl_run rfl (rp_build rfl (vs := [(0, bv (2 : UInt8)), (2, bv (1 : UInt8)), (3, .agg #[.bool false, bv (1 : UInt8)])]) rfl (cs := #[bv (2 : UInt8), bv (0 : UInt8), bv (1 : UInt8), .bool false, bv (1 : UInt8), .bool false, bv (0 : UInt8), bv (0 : UInt8), bv (0 : UInt8), bv (0 : UInt8)]) (by kernel_rfl)) ?_
 simp only [N]
 refine wl_run rfl (rp_build rfl (vs := [(0, bv (1 : UInt8)), (2, bv (0 : UInt8))]) rfl (cs := #[bv (1 : UInt8), bv (0 : UInt8), bv (0 : UInt8), .bool false, bv (0 : UInt8), .bool false, bv (0 : UInt8), bv (0 : UInt8), bv (0 : UInt8), bv (0 : UInt8)]) (by kernel_rfl)) ?_
 simp only [N]
 refine wl_xallocF H rfl (xa_buildSlice rfl Tryz.underlying53 sz52 zv52 (by decide) (by decide) (vs := [(0, .agg #[bv (2 : UInt8), bv (0 : UInt8), bv (1 : UInt8), .bool false, bv (1 : UInt8), .bool false, bv (0 : UInt8), bv (0 : UInt8), bv (0 : UInt8), bv (0 : UInt8)]), (1, .agg #[bv (1 : UInt8), bv (0 : UInt8), bv (0 : UInt8), .bool false, bv (0 : UInt8), .bool false, bv (0 : UInt8), bv (0 : UInt8), bv (0 : UInt8), bv (0 : UInt8)])]) rfl (cs := #[bv (2 : UInt8), bv (0 : UInt8), bv (1 : UInt8), .bool false, bv (1 : UInt8), .bool false, bv (0 : UInt8), bv (0 : UInt8), bv (0 : UInt8), bv (0 : UInt8), bv (1 : UInt8), bv (0 : UInt8), bv (0 : UInt8), .bool false, bv (0 : UInt8), .bool false, bv (0 : UInt8), bv (0 : UInt8), bv (0 : UInt8), bv (0 : UInt8)]) (by kernel_rfl)) ?_
 clear H; intro b5 w5 hnb5 H
 simp only [N]
 refine wl_xallocF H rfl (xa_buildSlice rfl Tryz.underlying24 sz53 zv53 (by decide) (by decide) (vs := [(0, .slice (some ⟨b4, 0, none⟩) 2 2), (1, .slice (some ⟨b5, 0, none⟩) 2 2)]) rfl (cs := #[.slice (some ⟨b4, 0, none⟩) 2 2, .slice (some ⟨b5, 0, none⟩) 2 2]) (by kernel_rfl)) ?_
 clear H; intro b6 w6 hnb6 H
 simp only [N]
 replace H := H.infer (IsProg (bufF_q1 b2 b3 b6 b4 b5)) (fun _ hR => (show IsProg (bufF_q1 b2 b3 b6 b4 b5) _ from by unfold bufF_q1; exact ⟨(slin_blk (ro_mem hR 4 rfl) ⟨[], rfl⟩ eStrN (Nat.le_of_ble_eq_true rfl)), (slin_blk (ro_mem hR 3 rfl) ⟨[], rfl⟩ eByteN (Nat.le_of_ble_eq_true rfl)), (slin_blk (ro_mem hR 0 rfl) ⟨[], rfl⟩ eSlN (Nat.le_of_ble_eq_true rfl)), List.forall_mem_cons.2 ⟨(slin_blk (ro_mem hR 2 rfl) ⟨[], rfl⟩ insN (Nat.le_of_ble_eq_true rfl)), List.forall_mem_cons.2 ⟨(slin_blk (ro_mem hR 1 rfl) ⟨[], rfl⟩ insN (Nat.le_of_ble_eq_true rfl)), fun _ h => by cases h⟩⟩, .mk _ (slin_nil condN) (fun _ h => by cases h), by first | exact Nat.le_of_ble_eq_true rfl | omega, List.forall_mem_cons.2 ⟨by first | exact Nat.le_of_ble_eq_true rfl | omega, List.forall_mem_cons.2 ⟨by first | exact Nat.le_of_ble_eq_true rfl | omega, fun _ h => by cases h⟩⟩, by simp [deepF, deepsF]⟩))
 refine wl_run rfl (rp_build rfl (vs := [(0, .string (⟨#[115, 98]⟩ : ByteArray)), (1, .slice (some ⟨b2, 0, none⟩) 2 2), (2, .slice (some ⟨b3, 0, none⟩) 2 2), (4, bv (1 : UInt8)), (3, .slice (some ⟨b6, 0, none⟩) 2 2)]) rfl (cs := ((bufF_q1 b2 b3 b6 b4 b5).cells).toArray) (by kernel_rfl)) ?_
 simp only [N]
 refine wl_storeW H 0 rfl rfl rfl rfl (vs := ((bufF_q1 b2 b3 b6 b4 b5).cells).toArray) rfl (Prog.cells_one _) (by first | exact sz29 | (rw [sz29]; congr 1; omega)) (by first | rfl | omega) ?_
 clear H; intro w7 H; simp only [M] at H
 simp only [N]
 refine wpList_nil ?_
 refine wp_ret ?_
 try simp only [Exit.inBlock, Exit.then, cutP]
 refine bodyPost_ret (results1 rfl (rv_agg H 0 rfl rfl Tryz.underlying29 rfl (by first | exact sz29 | (rw [sz29]; congr 1; omega)))) rfl ?_
 exact ⟨(b2, b3, b6, b4, b5), rfl, H.ext, fun _ hw => (show IsProg (bufF_q1 b2 b3 b6 b4 b5) _ from by unfold bufF_q1; exact ⟨(slin_blk ((hw b2 hnb2 (Array.getElem?_eq_some_iff.1 (H.ro_at 5 rfl)).1).trans (H.ro_at 5 rfl)) ⟨[], rfl⟩ eStrN (Nat.le_of_ble_eq_true rfl)), (slin_blk ((hw b3 hnb3 (Array.getElem?_eq_some_iff.1 (H.ro_at 4 rfl)).1).trans (H.ro_at 4 rfl)) ⟨[], rfl⟩ eByteN (Nat.le_of_ble_eq_true rfl)), (slin_blk ((hw b6 hnb6 (Array.getElem?_eq_some_iff.1 (H.ro_at 1 rfl)).1).trans (H.ro_at 1 rfl)) ⟨[], rfl⟩ eSlN (Nat.le_of_ble_eq_true rfl)), List.forall_mem_cons.2 ⟨(slin_blk ((hw b4 hnb4 (Array.getElem?_eq_some_iff.1 (H.ro_at 3 rfl)).1).trans (H.ro_at 3 rfl)) ⟨[], rfl⟩ insN (Nat.le_of_ble_eq_true rfl)), List.forall_mem_cons.2 ⟨(slin_blk ((hw b5 hnb5 (Array.getElem?_eq_some_iff.1 (H.ro_at 2 rfl)).1).trans (H.ro_at 2 rfl)) ⟨[], rfl⟩ insN (Nat.le_of_ble_eq_true rfl)), fun _ h => by cases h⟩⟩, .mk _ (slin_nil condN) (fun _ h => by cases h), by first | exact Nat.le_of_ble_eq_true rfl | omega, List.forall_mem_cons.2 ⟨by first | exact Nat.le_of_ble_eq_true rfl | omega, List.forall_mem_cons.2 ⟨by first | exact Nat.le_of_ble_eq_true rfl | omega, fun _ h => by cases h⟩⟩, by simp [deepF, deepsF]⟩)⟩

def playsF (picks : List UInt8) (a : UInt8) (b : UInt8) (order : List Int) (B_ : Prog) : Bool :=
  (((((((playF B_ picks).2.2 == (0 : Int)) && (((playF B_ picks).1.getD (0) 0) == a)) && (((playF B_ picks).1.getD (8) 0) == b)) && (((playF B_ picks).1.getD (32) 0) == (1 : UInt8))) && (((playF B_ picks).1.getD (33) 0) == (1 : UInt8))) && (intsF ((playF B_ picks).2.1) order))


theorem playsF_spec (picks : Sl UInt8) (a : UInt8) (b : UInt8) (order : Sl Int) (B_ : Prog) (hB : B_ = bufF_q1 0 0 0 0 0) (w : World) (hpicks : (SlIn 1 eByte picks) w) (horder : (SlIn 1 eInt order) w) (hg_ : (Glob) w) :
    Calls Tryz.prog 44 #[picks.val, bv a, bv b, order.val] w fun e w' => e = .returned (.bool ((playsF picks.l a b order.l B_))) ∧ Ext w w' := by
 have H := Own.start_ro w [SlIn 1 eByte picks, SlIn 1 eInt order, Glob] (List.forall_mem_cons.2 ⟨fun w' hw => hpicks.keep hw, List.forall_mem_cons.2 ⟨fun w' hw => horder.keep hw, List.forall_mem_cons.2 ⟨fun w' hw => hg_.keep hw, fun _ h => by cases h⟩⟩⟩)
 have hcpicks := hpicks.2.2
 have hcorder := horder.2.2
 go_enter Tryz.func44, Tryz.ntmps44
 refine wp_seq ?_
 refine wp_region_lit ?_
 refine wl_run rfl (rp_assign rfl (v := .bool false) rfl) ?_
 simp only [N]
 refine wpList_nil ?_
 refine wp_seq ?_
 refine wp_region_lit ?_
 refine wl_callFA H rfl (rc_go Tryz.func43 (by kernel_rfl) rfl) (bufF_spec _) ?_
 clear H; intro x1_ w1 H
 simp only [N]
 replace H := H.infer (IsProg (bufF_q1 x1_.1 x1_.2.1 x1_.2.2.1 x1_.2.2.2.1 x1_.2.2.2.2)) (fun _ hR => FreshAt.now (ro_mem hR 0 rfl))
 refine wl_run rfl (rp_move rfl (v := picks.val) rfl) ?_
 simp only [N]
 refine wl_callFA H rfl (rc_go Tryz.func18 (by kernel_rfl) rfl) ((by have hq := playF_spec (bufF_q1 x1_.1 x1_.2.1 x1_.2.2.1 x1_.2.2.2.1 x1_.2.2.2.2) picks _ (H.ro_at 0 rfl) (((H.ro_at 2 rfl))) (H.ro_at 4 rfl); rw [show (playF (bufF_q1 x1_.1 x1_.2.1 x1_.2.2.1 x1_.2.2.2.1 x1_.2.2.2.2) picks.l) = (playF B_ picks.l) from by rw [← playF_er (bufF_q1 x1_.1 x1_.2.1 x1_.2.2.1 x1_.2.2.2.1 x1_.2.2.2.2), show er (bufF_q1 x1_.1 x1_.2.1 x1_.2.2.1 x1_.2.2.2.1 x1_.2.2.2.2) = er B_ from (by rw [hB]; rfl), playF_er]] at hq; exact hq)) ?_
 clear H; intro x2_ w2 H
 simp only [N]
 have hcx2_0 : ((playF B_ picks.l).2.1).length ≤ 140737488355328 := ((FreshAt.now (H.ro_at 0 rfl))).2.2.1
 refine wl_run rfl (rp_move rfl (v := .tuple #[.agg (enc (playF B_ picks.l).1).toArray, (⟨x2_.1, x2_.2, (playF B_ picks.l).2.1⟩ : Sl Int).val, iv (playF B_ picks.l).2.2]) rfl) ?_
 simp only [N]
 refine wl_run rfl (rp_extract rfl rfl (v := .agg (enc (playF B_ picks.l).1).toArray) rfl) ?_
 simp only [N]
 refine wl_run rfl (rp_extract rfl rfl (v := (⟨x2_.1, x2_.2, (playF B_ picks.l).2.1⟩ : Sl Int).val) rfl) ?_
 simp only [N]
 refine wl_run rfl (rp_extract rfl rfl (v := iv (playF B_ picks.l).2.2) rfl) ?_
 simp only [N]
 refine wl_alloc H rfl rfl zv65 ?_
 clear H; intro b1 w3 hnb1 H; dsimp only [Value.cells] at H
 simp only [N]
 simp only [enc_replicate] at H
 refine wl_storeW H 0 rfl rfl rfl rfl (vs := (enc (playF B_ picks.l).1).toArray) rfl (fun v hv => enc_one v (by simpa using hv)) (by first | (rw [sz65]; congr 1; done) | (rw [sz65]; congr 1; first | omega | (simp [-List.reduceReplicate]; done) | (simp [-List.reduceReplicate]; omega) | (simp [*, -List.reduceReplicate]; done) | (simp [*, -List.reduceReplicate]; omega))) (by first | omega | (simp [-List.reduceReplicate]; done) | (simp [-List.reduceReplicate]; omega) | (simp [*, -List.reduceReplicate]; done) | (simp [*, -List.reduceReplicate]; omega)) ?_
 clear H; intro w4 H; simp only [M] at H
 simp only [N]
 refine wl_run rfl (rp_assign rfl (v := (⟨x2_.1, x2_.2, (playF B_ picks.l).2.1⟩ : Sl Int).val) rfl) ?_
 simp only [N]
 refine wl_run rfl (rp_assign rfl (v := iv (playF B_ picks.l).2.2) rfl) ?_
 simp only [N]
 refine wpList_nil ?_
 refine wp_seq ?_
 refine wp_region_lit ?_
 refine wl_run rfl (rp_move rfl (v := iv (playF B_ picks.l).2.2) rfl) ?_
 simp only [N]
 refine wl_run rfl (rp_int_eql rfl (playF B_ picks.l).2.2 (0 : Int) rfl rfl) ?_
 simp only [N]
 refine wl_run rfl (rp_move rfl (v := .bool ((playF B_ picks.l).2.2 == (0 : Int))) rfl) ?_
 simp only [N]
 refine wl_g (wn_t rfl rfl) (v := .pointer (some ⟨b1, 0, none⟩)) (fun hg => rp_fieldAddr rfl Tryz.underlying65 rfl 0 rfl sz63 rfl (0) rfl) ?_
 simp only [N]
 refine wl_g (wn_t rfl rfl) (v := .pointer (some ⟨b1, 0, none⟩)) (fun hg => by have x2 : (playF B_ picks.l).2.2 = (0 : Int) := (by simpa using hg); exact (by simp only [gv_t hg]; exact rp_indexAddr_arr rfl Tryz.underlying63 sz30 rfl 0 rfl (by omega) (0) (by omega))) ?_
 simp only [N]
 refine wl_g (wn_t rfl rfl) (v := .pointer (some ⟨b1, 0, none⟩)) (fun hg => by have x3 : (playF B_ picks.l).2.2 = (0 : Int) := (by simpa using hg); exact (by simp only [gv_t hg]; exact rp_indexAddr_arr rfl Tryz.underlying30 sz5 rfl 0 rfl (by omega) (0) (by omega))) ?_
 simp only [N]
 refine wl_g (wn_t rfl rfl) (v := bv ((playF B_ picks.l).1.getD (0) 0)) (fun hg => by have x4 : (playF B_ picks.l).2.2 = (0 : Int) := (by simpa using hg); exact (by simp only [gv_t hg]; exact rp_load1e H 0 rfl rfl rfl Tryz.underlying5 rfl (0) rfl (by first | omega | (simp [-List.reduceReplicate]; done) | (simp [-List.reduceReplicate]; omega) | (simp [*, -List.reduceReplicate]; done) | (simp [*, -List.reduceReplicate]; omega)))) ?_
 simp only [N]
 refine wl_g (wn_t rfl rfl) (v := bv a) (fun hg => rp_move rfl (v := bv a) rfl) ?_
 simp only [N]
 refine wl_g (wn_t rfl rfl) (v := .bool (((playF B_ picks.l).1.getD (0) 0) == a)) (fun hg => by have x6 : (playF B_ picks.l).2.2 = (0 : Int) := (by simpa using hg); exact (by simp only [gv_t hg]; exact rp_u8_eql rfl ((playF B_ picks.l).1.getD (0) 0) a rfl rfl)) ?_
 simp only [N]
 refine wl_run rfl (rp_pickA rfl (p := ((playF B_ picks.l).2.2 == (0 : Int))) (q := (((playF B_ picks.l).1.getD (0) 0) == a)) rfl rfl rfl) ?_
 simp only [N]
 refine wl_run rfl (rp_move rfl (v := .bool (((playF B_ picks.l).2.2 == (0 : Int)) && (((playF B_ picks.l).1.getD (0) 0) == a))) rfl) ?_
 simp only [N]
 refine wl_g (wn_t rfl rfl) (v := .pointer (some ⟨b1, 0, none⟩)) (fun hg => rp_fieldAddr rfl Tryz.underlying65 rfl 0 rfl sz63 rfl (0) rfl) ?_
 simp only [N]
 refine wl_g (wn_t rfl rfl) (v := .pointer (some ⟨b1, 8, none⟩)) (fun hg => by have x9 : (playF B_ picks.l).2.2 = (0 : Int) := (by simpa using (andl hg)); have x10 : (((playF B_ picks.l).1.getD (0) 0)).toNat = (a).toNat := u8_eq (andr hg); exact (by simp only [gv_t hg]; exact rp_indexAddr_arr rfl Tryz.underlying63 sz30 rfl 1 rfl (by omega) (8) (by omega))) ?_
 simp only [N]
 refine wl_g (wn_t rfl rfl) (v := .pointer (some ⟨b1, 8, none⟩)) (fun hg => by have x11 : (playF B_ picks.l).2.2 = (0 : Int) := (by simpa using (andl hg)); have x12 : (((playF B_ picks.l).1.getD (0) 0)).toNat = (a).toNat := u8_eq (andr hg); exact (by simp only [gv_t hg]; exact rp_indexAddr_arr rfl Tryz.underlying30 sz5 rfl 0 rfl (by omega) (8) (by omega))) ?_
 simp only [N]
 refine wl_g (wn_t rfl rfl) (v := bv ((playF B_ picks.l).1.getD (8) 0)) (fun hg => by have x13 : (playF B_ picks.l).2.2 = (0 : Int) := (by simpa using (andl hg)); have x14 : (((playF B_ picks.l).1.getD (0) 0)).toNat = (a).toNat := u8_eq (andr hg); exact (by simp only [gv_t hg]; exact rp_load1e H 0 rfl rfl rfl Tryz.underlying5 rfl (8) rfl (by first | omega | (simp [-List.reduceReplicate]; done) | (simp [-List.reduceReplicate]; omega) | (simp [*, -List.reduceReplicate]; done) | (simp [*, -List.reduceReplicate]; omega)))) ?_
 simp only [N]
 refine wl_g (wn_t rfl rfl) (v := bv b) (fun hg => rp_move rfl (v := bv b) rfl) ?_
 simp only [N]
 refine wl_g (wn_t rfl rfl) (v := .bool (((playF B_ picks.l).1.getD (8) 0) == b)) (fun hg => by have x17 : (playF B_ picks.l).2.2 = (0 : Int) := (by simpa using (andl hg)); have x18 : (((playF B_ picks.l).1.getD (0) 0)).toNat = (a).toNat := u8_eq (andr hg); exact (by simp only [gv_t hg]; exact rp_u8_eql rfl ((playF B_ picks.l).1.getD (8) 0) b rfl rfl)) ?_
 simp only [N]
 refine wl_run rfl (rp_pickA rfl (p := (((playF B_ picks.l).2.2 == (0 : Int)) && (((playF B_ picks.l).1.getD (0) 0) == a))) (q := (((playF B_ picks.l).1.getD (8) 0) == b)) rfl rfl rfl) ?_
 simp only [N]
 refine wl_run rfl (rp_move rfl (v := .bool ((((playF B_ picks.l).2.2 == (0 : Int)) && (((playF B_ picks.l).1.getD (0) 0) == a)) && (((playF B_ picks.l).1.getD (8) 0) == b))) rfl) ?_
 simp only [N]
 refine wl_g (wn_t rfl rfl) (v := .pointer (some ⟨b1, 32, none⟩)) (fun hg => rp_fieldAddr rfl Tryz.underlying65 rfl 32 rfl sz34 rfl (32) rfl) ?_
 simp only [N]
 refine wl_g (wn_t rfl rfl) (v := .pointer (some ⟨b1, 32, none⟩)) (fun hg => by have x22 : (playF B_ picks.l).2.2 = (0 : Int) := (by simpa using (andl (andl hg))); have x23 : (((playF B_ picks.l).1.getD (0) 0)).toNat = (a).toNat := u8_eq (andr (andl hg)); have x24 : (((playF B_ picks.l).1.getD (8) 0)).toNat = (b).toNat := u8_eq (andr hg); exact (by simp only [gv_t hg]; exact rp_indexAddr_arr rfl Tryz.underlying34 sz5 rfl 0 rfl (by omega) (32) (by omega))) ?_
 simp only [N]
 refine wl_g (wn_t rfl rfl) (v := bv ((playF B_ picks.l).1.getD (32) 0)) (fun hg => by have x25 : (playF B_ picks.l).2.2 = (0 : Int) := (by simpa using (andl (andl hg))); have x26 : (((playF B_ picks.l).1.getD (0) 0)).toNat = (a).toNat := u8_eq (andr (andl hg)); have x27 : (((playF B_ picks.l).1.getD (8) 0)).toNat = (b).toNat := u8_eq (andr hg); exact (by simp only [gv_t hg]; exact rp_load1e H 0 rfl rfl rfl Tryz.underlying5 rfl (32) rfl (by first | omega | (simp [-List.reduceReplicate]; done) | (simp [-List.reduceReplicate]; omega) | (simp [*, -List.reduceReplicate]; done) | (simp [*, -List.reduceReplicate]; omega)))) ?_
 simp only [N]
 refine wl_g (wn_t rfl rfl) (v := .bool (((playF B_ picks.l).1.getD (32) 0) == (1 : UInt8))) (fun hg => by have x28 : (playF B_ picks.l).2.2 = (0 : Int) := (by simpa using (andl (andl hg))); have x29 : (((playF B_ picks.l).1.getD (0) 0)).toNat = (a).toNat := u8_eq (andr (andl hg)); have x30 : (((playF B_ picks.l).1.getD (8) 0)).toNat = (b).toNat := u8_eq (andr hg); exact (by simp only [gv_t hg]; exact rp_u8_eql rfl ((playF B_ picks.l).1.getD (32) 0) (1 : UInt8) rfl rfl)) ?_
 simp only [N]
 refine wl_run rfl (rp_pickA rfl (p := ((((playF B_ picks.l).2.2 == (0 : Int)) && (((playF B_ picks.l).1.getD (0) 0) == a)) && (((playF B_ picks.l).1.getD (8) 0) == b))) (q := (((playF B_ picks.l).1.getD (32) 0) == (1 : UInt8))) rfl rfl rfl) ?_
 simp only [N]
 refine wl_run rfl (rp_move rfl (v := .bool (((((playF B_ picks.l).2.2 == (0 : Int)) && (((playF B_ picks.l).1.getD (0) 0) == a)) && (((playF B_ picks.l).1.getD (8) 0) == b)) && (((playF B_ picks.l).1.getD (32) 0) == (1 : UInt8)))) rfl) ?_
 simp only [N]
 refine wl_g (wn_t rfl rfl) (v := .pointer (some ⟨b1, 32, none⟩)) (fun hg => rp_fieldAddr rfl Tryz.underlying65 rfl 32 rfl sz34 rfl (32) rfl) ?_
 simp only [N]
 refine wl_g (wn_t rfl rfl) (v := .pointer (some ⟨b1, 33, none⟩)) (fun hg => by have x35 : (playF B_ picks.l).2.2 = (0 : Int) := (by simpa using (andl (andl (andl hg)))); have x36 : (((playF B_ picks.l).1.getD (0) 0)).toNat = (a).toNat := u8_eq (andr (andl (andl hg))); have x37 : (((playF B_ picks.l).1.getD (8) 0)).toNat = (b).toNat := u8_eq (andr (andl hg)); have x38 : (((playF B_ picks.l).1.getD (32) 0)).toNat = 1 := u8_eq (andr hg); exact (by simp only [gv_t hg]; exact rp_indexAddr_arr rfl Tryz.underlying34 sz5 rfl 1 rfl (by omega) (33) (by omega))) ?_
 simp only [N]
 refine wl_g (wn_t rfl rfl) (v := bv ((playF B_ picks.l).1.getD (33) 0)) (fun hg => by have x39 : (playF B_ picks.l).2.2 = (0 : Int) := (by simpa using (andl (andl (andl hg)))); have x40 : (((playF B_ picks.l).1.getD (0) 0)).toNat = (a).toNat := u8_eq (andr (andl (andl hg))); have x41 : (((playF B_ picks.l).1.getD (8) 0)).toNat = (b).toNat := u8_eq (andr (andl hg)); have x42 : (((playF B_ picks.l).1.getD (32) 0)).toNat = 1 := u8_eq (andr hg); exact (by simp only [gv_t hg]; exact rp_load1e H 0 rfl rfl rfl Tryz.underlying5 rfl (33) rfl (by first | omega | (simp [-List.reduceReplicate]; done) | (simp [-List.reduceReplicate]; omega) | (simp [*, -List.reduceReplicate]; done) | (simp [*, -List.reduceReplicate]; omega)))) ?_
 simp only [N]
 refine wl_g (wn_t rfl rfl) (v := .bool (((playF B_ picks.l).1.getD (33) 0) == (1 : UInt8))) (fun hg => by have x43 : (playF B_ picks.l).2.2 = (0 : Int) := (by simpa using (andl (andl (andl hg)))); have x44 : (((playF B_ picks.l).1.getD (0) 0)).toNat = (a).toNat := u8_eq (andr (andl (andl hg))); have x45 : (((playF B_ picks.l).1.getD (8) 0)).toNat = (b).toNat := u8_eq (andr (andl hg)); have x46 : (((playF B_ picks.l).1.getD (32) 0)).toNat = 1 := u8_eq (andr hg); exact (by simp only [gv_t hg]; exact rp_u8_eql rfl ((playF B_ picks.l).1.getD (33) 0) (1 : UInt8) rfl rfl)) ?_
 simp only [N]
 refine wl_run rfl (rp_pickA rfl (p := (((((playF B_ picks.l).2.2 == (0 : Int)) && (((playF B_ picks.l).1.getD (0) 0) == a)) && (((playF B_ picks.l).1.getD (8) 0) == b)) && (((playF B_ picks.l).1.getD (32) 0) == (1 : UInt8)))) (q := (((playF B_ picks.l).1.getD (33) 0) == (1 : UInt8))) rfl rfl rfl) ?_
 simp only [N]
 refine wl_run rfl (rp_move rfl (v := .bool ((((((playF B_ picks.l).2.2 == (0 : Int)) && (((playF B_ picks.l).1.getD (0) 0) == a)) && (((playF B_ picks.l).1.getD (8) 0) == b)) && (((playF B_ picks.l).1.getD (32) 0) == (1 : UInt8))) && (((playF B_ picks.l).1.getD (33) 0) == (1 : UInt8)))) rfl) ?_
 simp only [N]
 refine wl_g (wn_t rfl rfl) (v := (⟨x2_.1, x2_.2, (playF B_ picks.l).2.1⟩ : Sl Int).val) (fun hg => rp_move rfl (v := (⟨x2_.1, x2_.2, (playF B_ picks.l).2.1⟩ : Sl Int).val) rfl) ?_
 simp only [N]
 refine wl_g (wn_t rfl rfl) (v := order.val) (fun hg => rp_move rfl (v := order.val) rfl) ?_
 simp only [N]
 refine wl_gE H (wn_t rfl rfl) (fun hg => fun w => by simp only [gv_t hg]; exact rc_go Tryz.func28 (by kernel_rfl) rfl w) (v := .bool (intsF ((playF B_ picks.l).2.1) order.l)) (fun hg => by have x57 : (playF B_ picks.l).2.2 = (0 : Int) := (by simpa using (andl (andl (andl (andl hg))))); have x58 : (((playF B_ picks.l).1.getD (0) 0)).toNat = (a).toNat := u8_eq (andr (andl (andl (andl hg)))); have x59 : (((playF B_ picks.l).1.getD (8) 0)).toNat = (b).toNat := u8_eq (andr (andl (andl hg))); have x60 : (((playF B_ picks.l).1.getD (32) 0)).toNat = 1 := u8_eq (andr (andl hg)); have x61 : (((playF B_ picks.l).1.getD (33) 0)).toNat = 1 := u8_eq (andr hg); exact (intsF_spec (⟨x2_.1, x2_.2, (playF B_ picks.l).2.1⟩ : Sl Int) order _ ((FreshAt.now ((H.ro_at 0 rfl)))) (((H.ro_at 4 rfl))))) ?_
 clear H; intro w5 H
 simp only [N]
 refine wl_run rfl (rp_pickA rfl (p := ((((((playF B_ picks.l).2.2 == (0 : Int)) && (((playF B_ picks.l).1.getD (0) 0) == a)) && (((playF B_ picks.l).1.getD (8) 0) == b)) && (((playF B_ picks.l).1.getD (32) 0) == (1 : UInt8))) && (((playF B_ picks.l).1.getD (33) 0) == (1 : UInt8)))) (q := (intsF ((playF B_ picks.l).2.1) order.l)) rfl rfl rfl) ?_
 simp only [N]
 refine wl_run rfl (rp_assign rfl (v := .bool (((((((playF B_ picks.l).2.2 == (0 : Int)) && (((playF B_ picks.l).1.getD (0) 0) == a)) && (((playF B_ picks.l).1.getD (8) 0) == b)) && (((playF B_ picks.l).1.getD (32) 0) == (1 : UInt8))) && (((playF B_ picks.l).1.getD (33) 0) == (1 : UInt8))) && (intsF ((playF B_ picks.l).2.1) order.l))) rfl) ?_
 simp only [N]
 refine wpList_nil ?_
 refine wp_ret ?_
 try simp only [Exit.inBlock, Exit.then, cutP]
 refine bodyPost_ret (results1 rfl (rv_tmp rfl)) rfl ?_
 have hF : (playsF picks.l a b order.l B_) = (((((((playF B_ picks.l).2.2 == (0 : Int)) && (((playF B_ picks.l).1.getD (0) 0) == a)) && (((playF B_ picks.l).1.getD (8) 0) == b)) && (((playF B_ picks.l).1.getD (32) 0) == (1 : UInt8))) && (((playF B_ picks.l).1.getD (33) 0) == (1 : UInt8))) && (intsF ((playF B_ picks.l).2.1) order.l)) := rfl
 rw [hF]
 exact ⟨rfl, H.ext⟩

end Go.Proofs.YtpnaooajmdildaaGreatDoor
