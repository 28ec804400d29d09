/- Walks, printed by a program of this repository (wip/tool). -/
import Derived.Test.YtimonjemjhecoaaGreatDoorAt5
import Derived.Test.YtimonjemjhecoaaGreatDoorDec
namespace Go.Proofs.YtimonjemjhecoaaGreatDoor
open Go.RowKit
open Go
attribute [local irreducible] wpList wpQuiet wpX Code.wp
set_option maxHeartbeats 1000000
set_option maxRecDepth 100000
set_option linter.unusedSimpArgs false
set_option linter.unusedVariables false

theorem goesI_spec (p : Prog) (S : List UInt8) (t : Int) (hS : S.length = 142) (hr : RightOk p) (hm : mayF p S t = true) (w : World) (hp : IsProg p w) :
    Calls Tryz.prog 44 #[.agg p.cells.toArray, .agg (enc S).toArray, iv t] w fun e w' => e = .returned (.agg (enc (goesF p S t.toNat)).toArray) ∧ Ext w w' := by
  obtain ⟨h0, h1⟩ := mayF_nat.1 hm
  obtain ⟨hk, hpc⟩ := mayN_iff.1 h1
  have h2 := goes_spec p S t.toNat hS hr.threads.2 hk hpc (hr.at hk hpc).2.ok w hp
  rw [Int.toNat_of_nonneg h0] at h2
  exact h2

def moveF (p : Prog) (s : List UInt8) (t : Int) : (List UInt8) × Int :=
  bif ((!(aRightF p s)) || (!(mayF p s t))) then ((List.replicate 142 (0 : UInt8)), (2 : Int)) else ((goesF p s t.toNat), (0 : Int))

@[simp] theorem moveF_len0 (p : Prog) (s : List UInt8) (t : Int) (hs : s.length = 142) : ((moveF p s t).1).length = 142 := by
  simp only [moveF, Bool.cond_eq_ite]; split
  · simp
  · rename_i hc
    have hc : ((!(aRightF p s)) || (!(mayF p s t))) = false := by simpa using hc
    have hr1 : aRightF p s = true := by simpa using orl hc
    have hm1 : mayF p s t = true := by simpa using orr hc
    exact goes_length hs (by have := (mayN_iff.1 (mayF_nat.1 hm1).2).1; have := (aRight_ok hr1).threads; omega)

theorem moveF_spec (p : Prog) (s : List UInt8) (t : Int) (hs : s.length = 142) (w : World) (hp : (IsProg p) w) (hg_ : Glob w) :
    Calls Tryz.prog 23 #[.agg p.cells.toArray, .agg (enc s).toArray, iv t] w fun e w' => e = .returned (.tuple #[.agg (enc (moveF p s t).1).toArray, iv (moveF p s t).2]) ∧ Ext w w' := by
 have H := Own.start_ro w [IsProg p, Glob] (List.forall_mem_cons.2 ⟨fun w' hw => hp.keep hw, List.forall_mem_cons.2 ⟨fun w' hw => hg_.keep hw, fun _ h => by cases h⟩⟩)
 have hcp1 := hp.locs.2.2
 have hcp2 := hp.init.2.2
 have hcp3 := hp.threads.2.2
 go_enter Tryz.func23, Tryz.ntmps23
 refine wsr ?_
 refine wl_box H rfl rfl (v := .agg (p.cells).toArray) rfl ?_
 clear H; intro b1 w1 hnb1 H; dsimp only [Value.cells] at H
 simp only [N]
 refine wl_box H rfl rfl (v := .agg (enc s).toArray) rfl ?_
 clear H; intro b2 w2 hnb2 H; dsimp only [Value.cells] at H
 simp only [N]
 refine wl_alloc H rfl rfl zv41 ?_
 clear H; intro b3 w3 hnb3 H; dsimp only [Value.cells] at H
 simp only [N]
 simp only [enc_replicate] at H
 refine wasg (iv (0 : Int)) ?_; simp only [N]
 refine wpList_nil ?_
 refine wp_seq ?_; refine wsr ?_
 refine wr (rp_loadN H 2 rfl rfl rfl Tryz.underlying29 rfl sz29 (Nat.le_of_ble_eq_true rfl) (cs' := p.cells) rfl) ?_; simp only [N]
 refine wr (rp_loadWA H 1 rfl rfl rfl Tryz.underlying41 rfl sz41 rfl) ?_; simp only [N]
 refine wl_callE H rfl (rc_go Tryz.func41 (by kernel_rfl) rfl) (aRightF_spec p s (by first | omega | simp [-List.reduceReplicate] <;> omega | simp [*, -List.reduceReplicate] <;> omega) _ (H.ro_at 0 rfl) (H.ro_at 1 rfl)) ?_
 clear H; intro w4 H
 simp only [N]
 refine wr (rp_not rfl (aRightF p s) rfl) ?_; simp only [N]
 refine wmv (.bool (!(aRightF p s))) ?_; simp only [N]
 refine wl_g (wn_f rfl rfl) (v := .agg (p.cells).toArray) (fun hg => rp_loadN H 2 rfl rfl rfl Tryz.underlying29 rfl sz29 (Nat.le_of_ble_eq_true rfl) (cs' := p.cells) rfl) ?_; simp only [N]
 refine wl_g (wn_f rfl rfl) (v := .agg (enc s).toArray) (fun hg => rp_loadWA H 1 rfl rfl rfl Tryz.underlying41 rfl sz41 rfl) ?_; simp only [N]
 refine wl_g (wn_f rfl rfl) (v := iv t) (fun hg => rp_move rfl (v := iv t) rfl) ?_; simp only [N]
 refine wl_gE H (wn_f rfl rfl) (fun hg => fun w => by simp only [gv_t hg]; exact rc_go Tryz.func43 (by kernel_rfl) rfl w) (v := .bool (mayF p s t)) (fun hg => may_spec p s t (by first | omega | simp [-List.reduceReplicate] <;> omega | simp [*, -List.reduceReplicate] <;> omega) (by first | omega | exact (aRight_ok (by simpa using hg)).threads.2 | exact (aRight_ok (by assumption)).threads.2) _ (H.ro_at 0 rfl)) ?_
 clear H; intro w5 H
 simp only [N]
 refine wl_g (wn_f rfl rfl) (v := .bool (!(mayF p s t))) (fun hg => by simp only [gv_t hg]; exact rp_not rfl (mayF p s t) rfl) ?_; simp only [N]
 refine wr (rp_pickO rfl (p := (!(aRightF p s))) (q := (!(mayF p s t))) rfl rfl rfl) ?_; simp only [N]
 refine wpList_nil ?_
 refine wp_cond_split rfl (fun hc1 => ?_) (fun hc1 => ?_)
 · --T 1
  refine wsr ?_
  refine wr (rp_build rfl (vs := []) rfl (cs := (enc (List.replicate 142 (0 : UInt8))).toArray) (by kernel_rfl)) ?_; simp only [N]
  refine wl_storeA H 0 rfl rfl rfl rfl (List.replicate 142 (0 : UInt8)) rfl sz41 ?_
  clear H; intro w6 H; simp only [M] at H
  simp only [N]
  refine wasg (iv (2 : Int)) ?_; simp only [N]
  refine wpList_nil ?_
  refine wp_ret ?_
  try simp only [Exit.inBlock, Exit.then, cutP]
  refine bodyPost_ret (results2 rfl (rv_aggA H 0 rfl rfl Tryz.underlying41 rfl sz41) (rv_tmp rfl)) rfl ?_
  have hF : (moveF p s t) = ((List.replicate 142 (0 : UInt8)), (2 : Int)) := bt hc1
  rw [hF]
  exact ⟨rfl, H.ext⟩
 · --F 1
  have hr1 : aRightF p s = true := by simpa using orl hc1
  have hm1 : mayF p s t = true := by simpa using orr hc1
  have hk1 := aRight_ok hr1
  have hkk := (mayN_iff.1 (mayF_nat.1 hm1).2).1
  have hk4 := hk1.threads.2
  have hgl : (goesF p s t.toNat).length = 142 := goes_length hs (by omega)
  refine wp_skip ?_
  refine wsr ?_
  refine wr (rp_loadN H 2 rfl rfl rfl Tryz.underlying29 rfl sz29 (Nat.le_of_ble_eq_true rfl) (cs' := p.cells) rfl) ?_; simp only [N]
  refine wr (rp_loadWA H 1 rfl rfl rfl Tryz.underlying41 rfl sz41 rfl) ?_; simp only [N]
  refine wmv (iv t) ?_; simp only [N]
  refine wl_callE H rfl (rc_go Tryz.func44 (by kernel_rfl) rfl) (goesI_spec p s t (by first | omega | simp [-List.reduceReplicate] <;> omega | simp [*, -List.reduceReplicate] <;> omega) (by assumption) (by assumption) _ (H.ro_at 0 rfl)) ?_
  clear H; intro w7 H
  simp only [N]
  refine wl_storeA H 0 rfl rfl rfl rfl (goesF p s t.toNat) rfl sz41 ?_
  clear H; intro w8 H; simp only [M] at H
  simp only [N]
  refine wasg (iv (0 : Int)) ?_; simp only [N]
  refine wpList_nil ?_
  refine wp_ret ?_
  try simp only [Exit.inBlock, Exit.then, cutP]
  refine bodyPost_ret (results2 rfl (rv_aggA H 0 rfl rfl Tryz.underlying41 rfl sz41) (rv_tmp rfl)) rfl ?_
  have hF : (moveF p s t) = ((goesF p s t.toNat), (0 : Int)) := bf hc1
  rw [hF]
  exact ⟨rfl, H.ext⟩

end Go.Proofs.YtimonjemjhecoaaGreatDoor

namespace Go.Proofs.YtimonjemjhecoaaGreatDoor
open Go.RowKit
open Go
def lget : List Value → Nat → Value
  | [], _ => undef
  | x :: _, 0 => x
  | _ :: l, n + 1 => lget l n
def tq (a : Act) (n : Nat) : Value := lget a.tmps.toList n
section
variable {P : Program} {o : Oper} {a : Act} {w w0 : World} {S : List Nat} {R : List (World → Prop)} {L : List Res}
theorem rp_int_rem {T T' : TypeId} {x y : Operand} (ho : o.op = .binOp .rem T x y T') (p q : Nat) (hx : a.eval x = iv p) (hy : a.eval y = iv q) (hb : 0 < q ∧ q ≤ 9223372036854775807) :
    (execOp a.eval o).run P w = .ok (.value (iv ((p % q : Nat) : Int))) w := by
  unfold execOp; rw [ho]; simp only [hx, hy]
  have h0 : q ≠ 0 := by omega
  have he : Int.tmod (p : Int) (q : Int) = ((p % q : Nat) : Int) := by
    rw [Int.tmod_eq_emod_of_nonneg (by omega)]; rfl
  have hv : binOp .rem T (iv p) (iv q) = pure (iv ((p % q : Nat) : Int)) := by
    show Op.intDiv .rem .i64 (p : Int) (q : Int) = _
    unfold Op.intDiv
    rw [if_neg (by omega)]
    simp only [he]
  rw [hv]
  rfl
theorem ro_mem {w'' : World} (h : ∀ ψ ∈ R, ψ w'') (i : Nat) {φ : World → Prop} (hi : R[i]? = some φ) : φ w'' := h _ (List.mem_of_getElem? hi)
end
section
variable {P : Program} {md : Region.Mode} {Q : Exit → Act → World → Prop} {w0 : World} {S : List Nat} {R : List (World → Prop)} {L : List Res} {l : List Oper} {m fuel : Nat} {listed : Array Bool} {M : List (World → Prop)} {N : List Res} {a : Act}
def XStep (P : Program) (md : Region.Mode) (l : List Oper) (Q : Exit → Act → World → Prop) (w0 : World) (S : List Nat) (R : List (World → Prop)) (L : List Res) (m fuel : Nat) (listed : Array Bool) (M : List (World → Prop)) (N : List Res) (a : Act) (i : Nat) : Prop :=
  i < m ∧ xOp P l.toArray w0 S R L i (wpX P md l.toArray Q w0 S R L m fuel (listed.setIfInBounds i true)) M N a
theorem wxl_each2 (i j : Nat) (hr : Region.ready md l.toArray listed = [i, j]) (hi : XStep P md l Q w0 S R L m fuel listed M N a i) (hj : XStep P md l Q w0 S R L m fuel listed M N a j) :
    wpX P md l.toArray Q w0 S R L m (fuel + 1) listed M N a :=
  wpX_all hr (by simp) fun k hk => by
    simp only [List.mem_cons, List.not_mem_nil, or_false] at hk
    rcases hk with rfl | rfl
    · exact .inl hi
    · exact .inl hj
theorem xs_allocR {i : Nat} {oi : Oper} (hi : l[i]? = some oi) (hm : Nat.blt i m = true) (hw : Region.wanted oi (yielded l.toArray a.tmps) = true) {ob : Obj} {mk : Nat → Value} (ha : xAlloc P oi a ob mk)
    (h : ∀ b, wpX P md l.toArray Q w0 S R L m fuel (listed.setIfInBounds i true) M (.blk b ob :: N) (a.put oi.dst (mk b))) : XStep P md l Q w0 S R L m fuel listed M N a i :=
  ⟨Nat.blt_eq.mp hm, by
    unfold xOp
    have hi' : l.toArray[i]? = some oi := by simpa using hi
    simp only [hi', hw, if_true]
    exact .inr (.inl ⟨ob, mk, ha, h⟩)⟩
theorem xs_fresh {i : Nat} {oi : Oper} (hi : l[i]? = some oi) (hm : Nat.blt i m = true) (hw : Region.wanted oi (yielded l.toArray a.tmps) = true)
    {f : FuncId} {args : Array Value} (hrun : ∀ w, (execOp a.eval oi).run P w = .ok (.enter f args) w) {X : Type} {val : X → Value} {φ : X → World → Prop}
    (hc : ∀ w, Own w0 S (M ++ R) L w → Calls P f args w fun e w' => ∃ x, e = .returned (val x) ∧ Ext w w' ∧ Fresh w w' (φ x))
    (h : ∀ x, wpX P md l.toArray Q w0 S R L m fuel (listed.setIfInBounds i true) (φ x :: M) N (a.put oi.dst (val x))) : XStep P md l Q w0 S R L m fuel listed M N a i :=
  ⟨Nat.blt_eq.mp hm, by
    unfold xOp
    have hi' : l.toArray[i]? = some oi := by simpa using hi
    simp only [hi', hw, if_true]
    exact .inr (.inr (.inr (.inr (.inl ⟨X, val, φ, ⟨f, args, hrun, hc⟩, h⟩))))⟩
end
end Go.Proofs.YtimonjemjhecoaaGreatDoor

namespace Go.Proofs.YtimonjemjhecoaaGreatDoor
open Go.RowKit
open Go
attribute [local irreducible] wpList wpQuiet wpX Code.wp
set_option maxHeartbeats 1000000
set_option maxRecDepth 100000
set_option linter.unusedSimpArgs false
set_option linter.unusedVariables false

end Go.Proofs.YtimonjemjhecoaaGreatDoor

namespace Go.Proofs.YtimonjemjhecoaaGreatDoor
open Go.RowKit
open Go
attribute [local irreducible] wpList wpQuiet wpX Code.wp
set_option maxHeartbeats 1000000
set_option maxRecDepth 100000
set_option linter.unusedSimpArgs false
set_option linter.unusedVariables false


theorem Prog.cells_one (p : Prog) : ∀ v ∈ p.cells.toArray.toList, v.oneCell' = true := by
  simp [Prog.cells, Value.oneCell', Sl.val]
def er (p : Prog) : Prog := ⟨p.name, ⟨none, 0, p.locs.l⟩, ⟨none, 0, p.init.l⟩, ⟨none, 0, p.threads.l.map fun t => ⟨none, 0, t.l⟩⟩, p.ask, p.cond⟩
theorem er_len (p : Prog) : (er p).threads.l.length = p.threads.l.length := by simp [er]
theorem er_at (p : Prog) (k : Nat) : ((er p).threads.l.getD k default).l = (p.threads.l.getD k default).l := by
  simp only [er, List.getD_eq_getElem?_getD, List.getElem?_map]
  cases p.threads.l[k]? <;> rfl
theorem er_any (p : Prog) (f : List Ins → Bool) : (er p).threads.l.any (fun k => f k.l) = p.threads.l.any (fun k => f k.l) := by
  simp only [er, List.any_map]; rfl
attribute [simp] localF_length
theorem namesF_er (p : Prog) : namesF (er p) = namesF p := rfl
theorem rightF_er (p : Prog) : rightF (er p) = rightF p := by
  have h1 := er_any p (fun k => decide (((12 : Nat) : Int) < (k.length : Int)))
  have h2 := er_any p (fun k => !threadF k p.locs.l.length)
  unfold rightF
  rw [namesF_er, er_len, h1, show (er p).locs.l.length = p.locs.l.length from rfl, h2]
  rfl
theorem mayN_er (p : Prog) (S : List UInt8) (k : Nat) : mayN (er p) S k = mayN p S k := by unfold mayN; rw [er_len, er_at]
theorem mayF_er (p : Prog) (S : List UInt8) (t : Int) : mayF (er p) S t = mayF p S t := by unfold mayF; rw [mayN_er]
theorem insAt_er (p : Prog) (k n : Nat) : insAt (er p) k n = insAt p k n := by unfold insAt; rw [er_at]
theorem goesF_er (p : Prog) (S : List UInt8) (k : Nat) : goesF (er p) S k = goesF p S k := by unfold goesF; rw [insAt_er]
theorem aRightF_er (p : Prog) (s : List UInt8) : aRightF (er p) s = aRightF p s := by
  have h1 : aRightF_a (er p) s = aRightF_a p s := by
    funext r a
    simp only [aRightF_a, er_len, er_at]
  unfold aRightF
  rw [rightF_er, h1]
  rfl
theorem startF_er (p : Prog) : startF (er p) = startF p := by unfold startF; rw [rightF_er]; rfl
theorem moveF_er (p : Prog) (s : List UInt8) (t : Int) : moveF (er p) s t = moveF p s t := by unfold moveF; rw [aRightF_er, mayF_er, goesF_er]
end Go.Proofs.YtimonjemjhecoaaGreatDoor

namespace Go.Proofs.YtimonjemjhecoaaGreatDoor
open Go.RowKit
open Go
section
variable {P : Program} {md : Region.Mode} {Q : Exit → Act → World → Prop} {w0 w : World} {S : List Nat} {R : List (World → Prop)} {L : List Res} {l : List Oper} {m n : Nat} {listed : Array Bool} {M : List (World → Prop)} {N : List Res} {a : Act}
def upQ (Q : Exit → Act → World → Prop) (K : Act → World → Prop) : Exit → Act → World → Prop := fun e a w => match e with
  | .normal => K a w
  | e => Q e a w
theorem wpOp_of_list {i : Nat} {o : Oper} {K : Act → World → Prop} (hi : l[i]? = some o) (h : wpList P l.toArray (upQ Q K) [o] a w) : wpOp P l.toArray Q i K a w := by
  have h0 : l.toArray[i]? = some o := by simpa using hi
  unfold wpOp
  simp only [h0]
  unfold wpList at h
  split
  · rename_i hw
    simp only [hw, if_true] at h
    exact h.imp (Oper.wp_mono fun a' w' h' => by unfold wpList at h'; exact h') id
  · rename_i hw
    simp only [hw] at h
    unfold wpList at h
    exact h
theorem wa_any (hge : (Region.ready md l.toArray listed).all (fun i => Nat.ble m i) = true) (hne : (Region.ready md l.toArray listed).isEmpty = false)
    (h : ∀ w, Own w0 S (M ++ R) (N ++ L) w → wpAny P md l.toArray Q (n + 1) listed a w) : wpX P md l.toArray Q w0 S R L m (n + 1) listed M N a :=
  ⟨fun h0 => (by rw [h0] at hne; cases hne), fun i hi => .inr ⟨Nat.le_of_ble_eq_true (List.all_eq_true.1 hge i hi), fun w hX => (h w hX.1).2 i hi⟩⟩
theorem wa_1 (i : Nat) {o : Oper} (hi : l[i]? = some o) (hr : Region.ready md l.toArray listed = [i])
    (h : wpList P l.toArray (upQ Q (wpAny P md l.toArray Q n (listed.setIfInBounds i true))) [o] a w) : wpAny P md l.toArray Q (n + 1) listed a w :=
  wpAny_all hr (by simp) fun k hk => by
    simp only [List.mem_cons, List.not_mem_nil, or_false] at hk
    subst hk
    exact wpOp_of_list hi h
theorem wa_2 (i j : Nat) {o o' : Oper} (hi : l[i]? = some o) (hj : l[j]? = some o') (hr : Region.ready md l.toArray listed = [i, j])
    (h : wpList P l.toArray (upQ Q (wpAny P md l.toArray Q n (listed.setIfInBounds i true))) [o] a w)
    (h' : wpList P l.toArray (upQ Q (wpAny P md l.toArray Q n (listed.setIfInBounds j true))) [o'] a w) : wpAny P md l.toArray Q (n + 1) listed a w :=
  wpAny_all hr (by simp) fun k hk => by
    simp only [List.mem_cons, List.not_mem_nil, or_false] at hk
    rcases hk with rfl | rfl
    · exact wpOp_of_list hi h
    · exact wpOp_of_list hj h'
theorem wa_tail (i : Nat) (l' : List Oper) (hl : l'.length = n) (hg : l.drop i = l') (ht : tailLex md l.toArray n i listed = true) (h : wpList P l.toArray Q l' a w) : wpAny P md l.toArray Q n listed a w :=
  wpAny_tail n i listed l' a w hl (fun j => by rw [← hg, List.getElem?_drop]; simp) ht h
end
section
variable {P : Program} {o : Oper} {a : Act} {w w0 : World} {S : List Nat} {R : List (World → Prop)} {L : List Res}
theorem rp_min2 {x y : Operand} {dst : Option Tmp} {ats : Array TypeId} {ty : TypeId} {pos : String} {after : Array Edge} {guard : Option (Nat × Bool)} (ho : x = x) (p q : Int) (hx : a.eval x = iv p) (hy : a.eval y = iv q) :
    (execOp a.eval { dst, op := .call { callee := .builtin .min, args := #[x, y], argTypes := ats }, type := ty, pos, after, guard }).run P w = .ok (.value (iv (min p q))) w := by
  rw [BigFrame.execOp_builtin, show (#[x, y].map a.eval) = #[a.eval x, a.eval y] by simp, hx, hy]
  rw [BigFrame.builtin_min]
  have e : (if q < p then q else p) = min p q := by omega
  have h2 : Builtin.min2 (iv p) (iv q) = pure (iv (min p q)) := by
    show (pure (Value.int .i64 (if q < p then q else p)) : Sem Value) = _
    rw [e]
  simp [Builtin.min_, h2]
def vAd : Value → Option Addr
  | .slice a _ _ => a
  | _ => none
def vCap : Value → Nat
  | .slice _ _ c => c
  | _ => 0
def rowSl {β : Type} (v : Value) (l : List β) : Sl β := ⟨vAd v, vCap v, l⟩
theorem row_slin {β : Type} [Inhabited β] {n e len : Nat} {en : β → List Value} {v : Value} {xs : List Value} (H : Own w0 S R L w) (i : Nat) (hi : L[i]? = some (.row v e n len xs)) (l : List β) (hxs : xs = l.flatMap en) (hlen : len = l.length) (hen : ∀ x, (en x).length = n ∧ 0 < n) (hl : l.length ≤ 140737488355328) :
    v = (rowSl v l).val ∧ SlIn n en (rowSl v l) w := by
  have hr := H.at hi
  subst hlen
  rcases hr.2 with ⟨rfl, h0⟩ | ⟨g, cap, cur, rfl, _, hg, hnc, _, hcs, htk⟩
  · refine ⟨by simp [rowSl, Sl.val, h0, vAd, vCap], fun i hi => ?_, hen, hl, by show l.length ≤ 0; omega⟩
    simp only [rowSl] at hi
    omega
  · refine ⟨rfl, ?_⟩
    refine slin_blk (w := w) hg ?_ hen hl hnc
    rw [← hxs, ← htk]
    exact List.take_prefix ..
end
end Go.Proofs.YtimonjemjhecoaaGreatDoor
