/- More that the printed walks lean on: remainders, facts that follow from facts. No program in sight. -/
import Derived.Test.YtpnaooajmdildaaGreatDoorDec
namespace Go.Proofs.YtpnaooajmdildaaGreatDoor
open Go.RowKit
open Go
/-- A slot of a frame, read from the frame itself. -/
def lget : List Value → Nat → Value
  | [], _ => undef
  | x :: _, 0 => x
  | _ :: l, n + 1 => lget l n
def tq (a : Act) (n : Nat) : Value := lget a.tmps.toList n
section
variable {P : Program} {o : Oper} {a : Act} {w w0 : World} {S : List Nat} {R : List (World → Prop)} {L : List Res}
theorem rp_int_rem {T T' : TypeId} {x y : Operand} (ho : o.op = .binOp .rem T x y T') (p q : Nat) (hx : a.eval x = iv p) (hy : a.eval y = iv q) (hb : 0 < q ∧ q ≤ 9223372036854775807) :
    (execOp a.eval o).run P w = .ok (.value (iv ((p % q : Nat) : Int))) w := by
  unfold execOp; rw [ho]; simp only [hx, hy]
  have h0 : q ≠ 0 := by omega
  have he : Int.tmod (p : Int) (q : Int) = ((p % q : Nat) : Int) := by
    rw [Int.tmod_eq_emod_of_nonneg (by omega)]; rfl
  have hv : binOp .rem T (iv p) (iv q) = pure (iv ((p % q : Nat) : Int)) := by
    show Op.intDiv .rem .i64 (p : Int) (q : Int) = _
    unfold Op.intDiv
    rw [if_neg (by omega)]
    simp only [he]
  rw [hv]
  rfl
theorem rp_u8_rem {T T' : TypeId} {x y : Operand} (ho : o.op = .binOp .rem T x y T') (p q : UInt8) (hx : a.eval x = bv p) (hy : a.eval y = bv q) (hb : 0 < q.toNat) :
    (execOp a.eval o).run P w = .ok (.value (bv (p % q))) w := by
  unfold execOp; rw [ho]; simp only [hx, hy]
  have h0 : q.toNat ≠ 0 := by omega
  have he : Int.tmod (p.toNat : Int) (q.toNat : Int) = ((p % q).toNat : Int) := by
    rw [Int.tmod_eq_emod_of_nonneg (by omega), UInt8.toNat_mod]; rfl
  have hv : binOp .rem T (bv p) (bv q) = pure (bv (p % q)) := by
    show Op.intDiv .rem .u8 (p.toNat : Int) (q.toNat : Int) = _
    unfold Op.intDiv
    rw [if_neg (by omega)]
    simp only [he]
  rw [hv]
  rfl
theorem run_equal_bool {T : TypeId} (hT : P.underlying T = some .bool) (p q : Bool) (w : World) : (Op.equal T (.bool p) (.bool q)).run P w = .ok (p == q) w := by
  show (Op.equalIn (9999 + 1) T (.bool p) (.bool q)).run P w = _
  unfold Op.equalIn
  simp only [Sem.run_bind, run_underlying hT w, Result.andThen_ok]
  rfl
theorem rp_bool_eql {T T' : TypeId} {x y : Operand} (ho : o.op = .binOp .eql T x y T') (hT : P.underlying T = some .bool) (p q : Bool) (hx : a.eval x = .bool p) (hy : a.eval y = .bool q) :
    (execOp a.eval o).run P w = .ok (.value (.bool (p == q))) w := by
  unfold execOp; rw [ho]; simp only [hx, hy, eqGuard_at_bool]
  simp [binOp, run_equal_bool hT p q w]
theorem rp_bool_neq {T T' : TypeId} {x y : Operand} (ho : o.op = .binOp .neq T x y T') (hT : P.underlying T = some .bool) (p q : Bool) (hx : a.eval x = .bool p) (hy : a.eval y = .bool q) :
    (execOp a.eval o).run P w = .ok (.value (.bool (p != q))) w := by
  unfold execOp; rw [ho]; simp only [hx, hy, eqGuard_at_bool]
  simp [binOp, run_equal_bool hT p q w]
  cases p <;> cases q <;> rfl
theorem ro_mem {w'' : World} (h : ∀ ψ ∈ R, ψ w'') (i : Nat) {φ : World → Prop} (hi : R[i]? = some φ) : φ w'' := h _ (List.mem_of_getElem? hi)
end
section
variable {P : Program} {md : Region.Mode} {Q : Exit → Act → World → Prop} {w0 : World} {S : List Nat} {R : List (World → Prop)} {L : List Res} {l : List Oper} {m fuel : Nat} {listed : Array Bool} {M : List (World → Prop)} {N : List Res} {a : Act}
/-- Number i is picked next. -/
def XStep (P : Program) (md : Region.Mode) (l : List Oper) (Q : Exit → Act → World → Prop) (w0 : World) (S : List Nat) (R : List (World → Prop)) (L : List Res) (m fuel : Nat) (listed : Array Bool) (M : List (World → Prop)) (N : List Res) (a : Act) (i : Nat) : Prop :=
  i < m ∧ xOp P l.toArray w0 S R L i (wpX P md l.toArray Q w0 S R L m fuel (listed.setIfInBounds i true)) M N a
theorem wxl_each2 (i j : Nat) (hr : Region.ready md l.toArray listed = [i, j]) (hi : XStep P md l Q w0 S R L m fuel listed M N a i) (hj : XStep P md l Q w0 S R L m fuel listed M N a j) :
    wpX P md l.toArray Q w0 S R L m (fuel + 1) listed M N a :=
  wpX_all hr (by simp) fun k hk => by
    simp only [List.mem_cons, List.not_mem_nil, or_false] at hk
    rcases hk with rfl | rfl
    · exact .inl hi
    · exact .inl hj
theorem wxl_each3 (i j k : Nat) (hr : Region.ready md l.toArray listed = [i, j, k]) (hi : XStep P md l Q w0 S R L m fuel listed M N a i) (hj : XStep P md l Q w0 S R L m fuel listed M N a j) (hk : XStep P md l Q w0 S R L m fuel listed M N a k) :
    wpX P md l.toArray Q w0 S R L m (fuel + 1) listed M N a :=
  wpX_all hr (by simp) fun n hn => by
    simp only [List.mem_cons, List.not_mem_nil, or_false] at hn
    rcases hn with rfl | rfl | rfl
    · exact .inl hi
    · exact .inl hj
    · exact .inl hk
theorem xs_allocR {i : Nat} {oi : Oper} (hi : l[i]? = some oi) (hm : Nat.blt i m = true) (hw : Region.wanted oi (yielded l.toArray a.tmps) = true) {ob : Obj} {mk : Nat → Value} (ha : xAlloc P oi a ob mk)
    (h : ∀ b, wpX P md l.toArray Q w0 S R L m fuel (listed.setIfInBounds i true) M (.blk b ob :: N) (a.put oi.dst (mk b))) : XStep P md l Q w0 S R L m fuel listed M N a i :=
  ⟨Nat.blt_eq.mp hm, by
    unfold xOp
    have hi' : l.toArray[i]? = some oi := by simpa using hi
    simp only [hi', hw, if_true]
    exact .inr (.inl ⟨ob, mk, ha, h⟩)⟩
theorem xs_allocQ {i : Nat} {oi : Oper} (hi : l[i]? = some oi) (hm : Nat.blt i m = true) (hw : Region.wanted oi (yielded l.toArray a.tmps) = true) {ob : Obj} {mk : Nat → Value} (ha : xAlloc P oi a ob mk)
    (h : ∀ b, wpX P md l.toArray Q w0 S R L m fuel (listed.setIfInBounds i true) ((fun w => w.heap[b]? = some ob) :: M) N (a.put oi.dst (mk b))) : XStep P md l Q w0 S R L m fuel listed M N a i :=
  ⟨Nat.blt_eq.mp hm, by
    unfold xOp
    have hi' : l.toArray[i]? = some oi := by simpa using hi
    simp only [hi', hw, if_true]
    exact .inr (.inr (.inr (.inl ⟨ob, mk, ha, h⟩)))⟩
theorem xs_fresh {i : Nat} {oi : Oper} (hi : l[i]? = some oi) (hm : Nat.blt i m = true) (hw : Region.wanted oi (yielded l.toArray a.tmps) = true)
    {f : FuncId} {args : Array Value} (hrun : ∀ w, (execOp a.eval oi).run P w = .ok (.enter f args) w) {X : Type} {val : X → Value} {φ : X → World → Prop}
    (hc : ∀ w, Own w0 S (M ++ R) L w → Calls P f args w fun e w' => ∃ x, e = .returned (val x) ∧ Ext w w' ∧ Fresh w w' (φ x))
    (h : ∀ x, wpX P md l.toArray Q w0 S R L m fuel (listed.setIfInBounds i true) (φ x :: M) N (a.put oi.dst (val x))) : XStep P md l Q w0 S R L m fuel listed M N a i :=
  ⟨Nat.blt_eq.mp hm, by
    unfold xOp
    have hi' : l.toArray[i]? = some oi := by simpa using hi
    simp only [hi', hw, if_true]
    exact .inr (.inr (.inr (.inr (.inl ⟨X, val, φ, ⟨f, args, hrun, hc⟩, h⟩))))⟩
theorem xs_quiet {i : Nat} {oi : Oper} (hi : l[i]? = some oi) (hm : Nat.blt i m = true) {v : Value} (hy : XYields P l.toArray w0 S (M ++ R) L oi v a)
    (h : wpX P md l.toArray Q w0 S R L m fuel (listed.setIfInBounds i true) M N (a.put oi.dst v)) : XStep P md l Q w0 S R L m fuel listed M N a i :=
  ⟨Nat.blt_eq.mp hm, hy.xOp (by simpa using hi) h⟩
end
end Go.Proofs.YtpnaooajmdildaaGreatDoor
