/- Walks, printed by a program of this repository (wip/tool). -/
import Derived.Test.YtimonjemjhecoaaGreatDoorAt5
import Derived.Test.YtimonjemjhecoaaGreatDoorDec
namespace Go.Proofs.YtimonjemjhecoaaGreatDoor
open Go.RowKit
open Go
attribute [local irreducible] wpList wpQuiet wpX Code.wp
set_option maxHeartbeats 1000000
set_option maxRecDepth 100000
set_option linter.unusedSimpArgs false
set_option linter.unusedVariables false

theorem goesI_spec (p : Prog) (S : List UInt8) (t : Int) (hS : S.length = 142) (hr : RightOk p) (hm : mayF p S t = true) (w : World) (hp : IsProg p w) :
    Calls Tryz.prog 44 #[.agg p.cells.toArray, .agg (enc S).toArray, iv t] w fun e w' => e = .returned (.agg (enc (goesF p S t.toNat)).toArray) ∧ Ext w w' := by
  obtain ⟨h0, h1⟩ := mayF_nat.1 hm
  obtain ⟨hk, hpc⟩ := mayN_iff.1 h1
  have h2 := goes_spec p S t.toNat hS hr.threads.2 hk hpc (hr.at hk hpc).2.ok w hp
  rw [Int.toNat_of_nonneg h0] at h2
  exact h2

def movesF (p : Prog) (s : List UInt8) : (List Int) :=
  bif (!(aRightF p s)) then ([]) else (ableF p s)


theorem movesF_spec (p : Prog) (s : List UInt8) (hs : s.length = 142) (w : World) (hp : (IsProg p) w) (hg_ : Glob w) :
    Calls Tryz.prog 26 #[.agg p.cells.toArray, .agg (enc s).toArray] w fun e w' => ∃ x : (Option Addr × Nat), e = .returned ((⟨x.1, x.2, (movesF p s)⟩ : Sl Int).val) ∧ Ext w w' ∧ Fresh w w' (SlIn 1 eInt (⟨x.1, x.2, (movesF p s)⟩ : Sl Int)) := by
 have H := Own.start_ro w [IsProg p, Glob] (List.forall_mem_cons.2 ⟨fun w' hw => hp.keep hw, List.forall_mem_cons.2 ⟨fun w' hw => hg_.keep hw, fun _ h => by cases h⟩⟩)
 have hcp1 := hp.locs.2.2
 have hcp2 := hp.init.2.2
 have hcp3 := hp.threads.2.2
 go_enter Tryz.func26, Tryz.ntmps26
 refine wp_seq ?_; refine wp_region_lit ?_; refine wl_box H rfl rfl (v := .agg (p.cells).toArray) rfl ?_
 clear H; intro b1 w1 hnb1 H; dsimp only [Value.cells] at H
 simp only [N]
 refine wl_box H rfl rfl (v := .agg (enc s).toArray) rfl ?_
 clear H; intro b2 w2 hnb2 H; dsimp only [Value.cells] at H
 simp only [N]
 refine wasg ((.slice none 0 0)) ?_; simp only [N]
 refine wpList_nil ?_
 refine wp_seq ?_; refine wp_seq ?_; refine wp_region_lit ?_; refine wr (rp_loadN H 1 rfl rfl rfl Tryz.underlying29 rfl sz29 (Nat.le_of_ble_eq_true rfl) (cs' := p.cells) rfl) ?_; simp only [N]
 refine wr (rp_loadWA H 0 rfl rfl rfl Tryz.underlying41 rfl sz41 rfl) ?_; simp only [N]
 refine wl_callE H rfl (rc_go Tryz.func41 (by kernel_rfl) rfl) (aRightF_spec p s (by first | omega | simp [-List.reduceReplicate] <;> omega | simp [*, -List.reduceReplicate] <;> omega) _ (H.ro_at 0 rfl) (H.ro_at 1 rfl)) ?_
 clear H; intro w3 H
 simp only [N]
 refine wr (rp_not rfl (aRightF p s) rfl) ?_; simp only [N]
 refine wpList_nil ?_
 refine wp_cond_split rfl (fun hc1 => ?_) (fun hc1 => ?_)
 · --T 1
  refine wp_seq ?_; refine wp_region_lit ?_; refine wasg ((.slice none 0 0)) ?_; simp only [N]
  refine wpList_nil ?_
  refine wp_ret ?_
  try simp only [Exit.inBlock, Exit.then, cutP]
  refine bodyPost_ret (results1 rfl (rv_tmp rfl)) rfl ?_
  have hF : (movesF p s) = [] := bt hc1
  rw [hF]
  exact ⟨(none, 0), rfl, H.ext, (fun _ _ => slin_nil eIntN)⟩
 · --F 1
  refine wp_skip ?_
  refine wp_seq ?_; refine wp_region_lit ?_; refine wr (rp_loadN H 1 rfl rfl rfl Tryz.underlying29 rfl sz29 (Nat.le_of_ble_eq_true rfl) (cs' := p.cells) rfl) ?_; simp only [N]
  refine wr (rp_loadWA H 0 rfl rfl rfl Tryz.underlying41 rfl sz41 rfl) ?_; simp only [N]
  refine wl_callFA H rfl (rc_go Tryz.func45 (by kernel_rfl) rfl) (ableF_spec p s (by first | omega | simp [-List.reduceReplicate] <;> omega | simp [*, -List.reduceReplicate] <;> omega) (by first | omega | exact (aRight_ok (by simpa using hc1)).threads.2) _ (H.ro_at 0 rfl)) ?_
  clear H; intro x1_ w4 H
  simp only [N]
  have hcx1_0 : (ableF p s).length ≤ 140737488355328 := (FreshAt.now (H.ro_at 0 rfl)).2.2.1
  refine wasg ((⟨x1_.1, x1_.2, (ableF p s)⟩ : Sl Int).val) ?_; simp only [N]
  refine wpList_nil ?_
  refine wp_ret ?_
  try simp only [Exit.inBlock, Exit.then, cutP]
  refine bodyPost_ret (results1 rfl (rv_tmp rfl)) rfl ?_
  have hF : (movesF p s) = (ableF p s) := bf hc1
  rw [hF]
  exact ⟨x1_, rfl, H.ext, (FreshAt.fresh (H.ro_at 0 rfl))⟩

def moveF (p : Prog) (s : List UInt8) (t : Int) : (List UInt8) × Int :=
  bif ((!(aRightF p s)) || (!(mayF p s t))) then ((List.replicate 142 (0 : UInt8)), (2 : Int)) else ((goesF p s t.toNat), (0 : Int))

@[simp] theorem moveF_len0 (p : Prog) (s : List UInt8) (t : Int) (hs : s.length = 142) : ((moveF p s t).1).length = 142 := by
  simp only [moveF, Bool.cond_eq_ite]; split
  · simp
  · rename_i hc
    have hc : ((!(aRightF p s)) || (!(mayF p s t))) = false := by simpa using hc
    have hr1 : aRightF p s = true := by simpa using orl hc
    have hm1 : mayF p s t = true := by simpa using orr hc
    exact goes_length hs (by have := (mayN_iff.1 (mayF_nat.1 hm1).2).1; have := (aRight_ok hr1).threads; omega)

theorem moveF_spec (p : Prog) (s : List UInt8) (t : Int) (hs : s.length = 142) (w : World) (hp : (IsProg p) w) (hg_ : Glob w) :
    Calls Tryz.prog 23 #[.agg p.cells.toArray, .agg (enc s).toArray, iv t] w fun e w' => e = .returned (.tuple #[.agg (enc (moveF p s t).1).toArray, iv (moveF p s t).2]) ∧ Ext w w' := by
 have H := Own.start_ro w [IsProg p, Glob] (List.forall_mem_cons.2 ⟨fun w' hw => hp.keep hw, List.forall_mem_cons.2 ⟨fun w' hw => hg_.keep hw, fun _ h => by cases h⟩⟩)
 have hcp1 := hp.locs.2.2
 have hcp2 := hp.init.2.2
 have hcp3 := hp.threads.2.2
 go_enter Tryz.func23, Tryz.ntmps23
 refine wp_seq ?_; refine wp_region_lit ?_; refine wl_box H rfl rfl (v := .agg (p.cells).toArray) rfl ?_
 clear H; intro b1 w1 hnb1 H; dsimp only [Value.cells] at H
 simp only [N]
 refine wl_box H rfl rfl (v := .agg (enc s).toArray) rfl ?_
 clear H; intro b2 w2 hnb2 H; dsimp only [Value.cells] at H
 simp only [N]
 refine wl_alloc H rfl rfl zv41 ?_
 clear H; intro b3 w3 hnb3 H; dsimp only [Value.cells] at H
 simp only [N]
 simp only [enc_replicate] at H
 refine wasg (iv (0 : Int)) ?_; simp only [N]
 refine wpList_nil ?_
 refine wp_seq ?_; refine wp_seq ?_; refine wp_region_lit ?_; refine wr (rp_loadN H 2 rfl rfl rfl Tryz.underlying29 rfl sz29 (Nat.le_of_ble_eq_true rfl) (cs' := p.cells) rfl) ?_; simp only [N]
 refine wr (rp_loadWA H 1 rfl rfl rfl Tryz.underlying41 rfl sz41 rfl) ?_; simp only [N]
 refine wl_callE H rfl (rc_go Tryz.func41 (by kernel_rfl) rfl) (aRightF_spec p s (by first | omega | simp [-List.reduceReplicate] <;> omega | simp [*, -List.reduceReplicate] <;> omega) _ (H.ro_at 0 rfl) (H.ro_at 1 rfl)) ?_
 clear H; intro w4 H
 simp only [N]
 refine wr (rp_not rfl (aRightF p s) rfl) ?_; simp only [N]
 refine wmv (.bool (!(aRightF p s))) ?_; simp only [N]
 refine wl_g (wn_f rfl rfl) (v := .agg (p.cells).toArray) (fun hg => rp_loadN H 2 rfl rfl rfl Tryz.underlying29 rfl sz29 (Nat.le_of_ble_eq_true rfl) (cs' := p.cells) rfl) ?_; simp only [N]
 refine wl_g (wn_f rfl rfl) (v := .agg (enc s).toArray) (fun hg => rp_loadWA H 1 rfl rfl rfl Tryz.underlying41 rfl sz41 rfl) ?_; simp only [N]
 refine wl_g (wn_f rfl rfl) (v := iv t) (fun hg => rp_move rfl (v := iv t) rfl) ?_; simp only [N]
 refine wl_gE H (wn_f rfl rfl) (fun hg => fun w => by simp only [gv_t hg]; exact rc_go Tryz.func43 (by kernel_rfl) rfl w) (v := .bool (mayF p s t)) (fun hg => may_spec p s t (by first | omega | simp [-List.reduceReplicate] <;> omega | simp [*, -List.reduceReplicate] <;> omega) (by first | omega | exact (aRight_ok (by simpa using hg)).threads.2 | exact (aRight_ok (by assumption)).threads.2) _ (H.ro_at 0 rfl)) ?_
 clear H; intro w5 H
 simp only [N]
 refine wl_g (wn_f rfl rfl) (v := .bool (!(mayF p s t))) (fun hg => by simp only [gv_t hg]; exact rp_not rfl (mayF p s t) rfl) ?_; simp only [N]
 refine wr (rp_pickO rfl (p := (!(aRightF p s))) (q := (!(mayF p s t))) rfl rfl rfl) ?_; simp only [N]
 refine wpList_nil ?_
 refine wp_cond_split rfl (fun hc1 => ?_) (fun hc1 => ?_)
 · --T 1
  refine wp_seq ?_; refine wp_region_lit ?_; refine wr (rp_build rfl (vs := []) rfl (cs := (enc (List.replicate 142 (0 : UInt8))).toArray) (by kernel_rfl)) ?_; simp only [N]
  refine wl_storeA H 0 rfl rfl rfl rfl (List.replicate 142 (0 : UInt8)) rfl sz41 ?_
  clear H; intro w6 H; simp only [M] at H
  simp only [N]
  refine wasg (iv (2 : Int)) ?_; simp only [N]
  refine wpList_nil ?_
  refine wp_ret ?_
  try simp only [Exit.inBlock, Exit.then, cutP]
  refine bodyPost_ret (results2 rfl (rv_aggA H 0 rfl rfl Tryz.underlying41 rfl sz41) (rv_tmp rfl)) rfl ?_
  have hF : (moveF p s t) = ((List.replicate 142 (0 : UInt8)), (2 : Int)) := bt hc1
  rw [hF]
  exact ⟨rfl, H.ext⟩
 · --F 1
  have hr1 : aRightF p s = true := by simpa using orl hc1
  have hm1 : mayF p s t = true := by simpa using orr hc1
  have hk1 := aRight_ok hr1
  have hkk := (mayN_iff.1 (mayF_nat.1 hm1).2).1
  have hk4 := hk1.threads.2
  have hgl : (goesF p s t.toNat).length = 142 := goes_length hs (by omega)
  refine wp_skip ?_
  refine wp_seq ?_; refine wp_region_lit ?_; refine wr (rp_loadN H 2 rfl rfl rfl Tryz.underlying29 rfl sz29 (Nat.le_of_ble_eq_true rfl) (cs' := p.cells) rfl) ?_; simp only [N]
  refine wr (rp_loadWA H 1 rfl rfl rfl Tryz.underlying41 rfl sz41 rfl) ?_; simp only [N]
  refine wmv (iv t) ?_; simp only [N]
  refine wl_callE H rfl (rc_go Tryz.func44 (by kernel_rfl) rfl) (goesI_spec p s t (by first | omega | simp [-List.reduceReplicate] <;> omega | simp [*, -List.reduceReplicate] <;> omega) (by assumption) (by assumption) _ (H.ro_at 0 rfl)) ?_
  clear H; intro w7 H
  simp only [N]
  refine wl_storeA H 0 rfl rfl rfl rfl (goesF p s t.toNat) rfl sz41 ?_
  clear H; intro w8 H; simp only [M] at H
  simp only [N]
  refine wasg (iv (0 : Int)) ?_; simp only [N]
  refine wpList_nil ?_
  refine wp_ret ?_
  try simp only [Exit.inBlock, Exit.then, cutP]
  refine bodyPost_ret (results2 rfl (rv_aggA H 0 rfl rfl Tryz.underlying41 rfl sz41) (rv_tmp rfl)) rfl ?_
  have hF : (moveF p s t) = ((goesF p s t.toNat), (0 : Int)) := bf hc1
  rw [hF]
  exact ⟨rfl, H.ext⟩

end Go.Proofs.YtimonjemjhecoaaGreatDoor

namespace Go.Proofs.YtimonjemjhecoaaGreatDoor
open Go.RowKit
open Go
/-- A slot of a frame, read from the frame itself. -/
def lget : List Value → Nat → Value
  | [], _ => undef
  | x :: _, 0 => x
  | _ :: l, n + 1 => lget l n
def tq (a : Act) (n : Nat) : Value := lget a.tmps.toList n
section
variable {P : Program} {o : Oper} {a : Act} {w w0 : World} {S : List Nat} {R : List (World → Prop)} {L : List Res}
theorem rp_int_rem {T T' : TypeId} {x y : Operand} (ho : o.op = .binOp .rem T x y T') (p q : Nat) (hx : a.eval x = iv p) (hy : a.eval y = iv q) (hb : 0 < q ∧ q ≤ 9223372036854775807) :
    (execOp a.eval o).run P w = .ok (.value (iv ((p % q : Nat) : Int))) w := by
  unfold execOp; rw [ho]; simp only [hx, hy]
  have h0 : q ≠ 0 := by omega
  have he : Int.tmod (p : Int) (q : Int) = ((p % q : Nat) : Int) := by
    rw [Int.tmod_eq_emod_of_nonneg (by omega)]; rfl
  have hv : binOp .rem T (iv p) (iv q) = pure (iv ((p % q : Nat) : Int)) := by
    show Op.intDiv .rem .i64 (p : Int) (q : Int) = _
    unfold Op.intDiv
    rw [if_neg (by omega)]
    simp only [he]
  rw [hv]
  rfl
theorem rp_u8_rem {T T' : TypeId} {x y : Operand} (ho : o.op = .binOp .rem T x y T') (p q : UInt8) (hx : a.eval x = bv p) (hy : a.eval y = bv q) (hb : 0 < q.toNat) :
    (execOp a.eval o).run P w = .ok (.value (bv (p % q))) w := by
  unfold execOp; rw [ho]; simp only [hx, hy]
  have h0 : q.toNat ≠ 0 := by omega
  have he : Int.tmod (p.toNat : Int) (q.toNat : Int) = ((p % q).toNat : Int) := by
    rw [Int.tmod_eq_emod_of_nonneg (by omega), UInt8.toNat_mod]; rfl
  have hv : binOp .rem T (bv p) (bv q) = pure (bv (p % q)) := by
    show Op.intDiv .rem .u8 (p.toNat : Int) (q.toNat : Int) = _
    unfold Op.intDiv
    rw [if_neg (by omega)]
    simp only [he]
  rw [hv]
  rfl
theorem ro_mem {w'' : World} (h : ∀ ψ ∈ R, ψ w'') (i : Nat) {φ : World → Prop} (hi : R[i]? = some φ) : φ w'' := h _ (List.mem_of_getElem? hi)
end
section
variable {P : Program} {md : Region.Mode} {Q : Exit → Act → World → Prop} {w0 : World} {S : List Nat} {R : List (World → Prop)} {L : List Res} {l : List Oper} {m fuel : Nat} {listed : Array Bool} {M : List (World → Prop)} {N : List Res} {a : Act}
/-- Number i is picked next. -/
def XStep (P : Program) (md : Region.Mode) (l : List Oper) (Q : Exit → Act → World → Prop) (w0 : World) (S : List Nat) (R : List (World → Prop)) (L : List Res) (m fuel : Nat) (listed : Array Bool) (M : List (World → Prop)) (N : List Res) (a : Act) (i : Nat) : Prop :=
  i < m ∧ xOp P l.toArray w0 S R L i (wpX P md l.toArray Q w0 S R L m fuel (listed.setIfInBounds i true)) M N a
theorem wxl_each2 (i j : Nat) (hr : Region.ready md l.toArray listed = [i, j]) (hi : XStep P md l Q w0 S R L m fuel listed M N a i) (hj : XStep P md l Q w0 S R L m fuel listed M N a j) :
    wpX P md l.toArray Q w0 S R L m (fuel + 1) listed M N a :=
  wpX_all hr (by simp) fun k hk => by
    simp only [List.mem_cons, List.not_mem_nil, or_false] at hk
    rcases hk with rfl | rfl
    · exact .inl hi
    · exact .inl hj
theorem xs_allocR {i : Nat} {oi : Oper} (hi : l[i]? = some oi) (hm : Nat.blt i m = true) (hw : Region.wanted oi (yielded l.toArray a.tmps) = true) {ob : Obj} {mk : Nat → Value} (ha : xAlloc P oi a ob mk)
    (h : ∀ b, wpX P md l.toArray Q w0 S R L m fuel (listed.setIfInBounds i true) M (.blk b ob :: N) (a.put oi.dst (mk b))) : XStep P md l Q w0 S R L m fuel listed M N a i :=
  ⟨Nat.blt_eq.mp hm, by
    unfold xOp
    have hi' : l.toArray[i]? = some oi := by simpa using hi
    simp only [hi', hw, if_true]
    exact .inr (.inl ⟨ob, mk, ha, h⟩)⟩
theorem xs_fresh {i : Nat} {oi : Oper} (hi : l[i]? = some oi) (hm : Nat.blt i m = true) (hw : Region.wanted oi (yielded l.toArray a.tmps) = true)
    {f : FuncId} {args : Array Value} (hrun : ∀ w, (execOp a.eval oi).run P w = .ok (.enter f args) w) {X : Type} {val : X → Value} {φ : X → World → Prop}
    (hc : ∀ w, Own w0 S (M ++ R) L w → Calls P f args w fun e w' => ∃ x, e = .returned (val x) ∧ Ext w w' ∧ Fresh w w' (φ x))
    (h : ∀ x, wpX P md l.toArray Q w0 S R L m fuel (listed.setIfInBounds i true) (φ x :: M) N (a.put oi.dst (val x))) : XStep P md l Q w0 S R L m fuel listed M N a i :=
  ⟨Nat.blt_eq.mp hm, by
    unfold xOp
    have hi' : l.toArray[i]? = some oi := by simpa using hi
    simp only [hi', hw, if_true]
    exact .inr (.inr (.inr (.inr (.inl ⟨X, val, φ, ⟨f, args, hrun, hc⟩, h⟩))))⟩
end
end Go.Proofs.YtimonjemjhecoaaGreatDoor
