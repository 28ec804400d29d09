/- What the printed walks lean on: frames, guards, ways that meet, loops as functions. No program in sight. -/
import Derived.Test.YtimonjemjhecoaaGreatDoorSxRange
import Derived.Test.YtimonjemjhecoaaGreatDoorSxEq
namespace Go.Proofs.YtimonjemjhecoaaGreatDoor
open Go.RowKit
open Go
theorem bt {α : Type} {c : Bool} {a b : α} (h : c = true) : (bif c then a else b) = a := by rw [h]; rfl
theorem bf {α : Type} {c : Bool} {a b : α} (h : c = false) : (bif c then a else b) = b := by rw [h]; rfl
theorem andl {a b : Bool} (h : (a && b) = true) : a = true := by cases a <;> simp_all
theorem andr {a b : Bool} (h : (a && b) = true) : b = true := by cases a <;> simp_all
theorem orl {a b : Bool} (h : (a || b) = false) : a = false := by cases a <;> simp_all
theorem orr {a b : Bool} (h : (a || b) = false) : b = false := by cases a <;> simp_all
theorem notT {a : Bool} (h : (!a) = true) : a = false := by cases a <;> simp_all
section
variable {α σ ρ : Type}
def loopL (B : α → (σ → ρ) → σ → ρ) (K : σ → ρ) : List α → σ → ρ
  | [], s => K s
  | x :: l, s => B x (loopL B K l) s
def loopN (B : (σ → ρ) → σ → ρ) (K : σ → ρ) : Nat → σ → ρ
  | 0, s => K s
  | n + 1, s => B (loopN B K n) s
def loopF [Inhabited ρ] (B : (σ → ρ) → σ → ρ) : Nat → σ → ρ
  | 0, _ => default
  | n + 1, s => B (loopF B n) s
theorem drop_step [Inhabited α] {l : List α} {k : Nat} (h : k < l.length) : l.drop k = l.getD k default :: l.drop (k + 1) := by
  rw [List.drop_eq_getElem_cons h]; simp [List.getD, List.getElem?_eq_getElem h]
theorem loopL_step [Inhabited α] {B : α → (σ → ρ) → σ → ρ} {K : σ → ρ} {l : List α} {k : Nat} {s : σ} (h : k < l.length) : loopL B K (l.drop k) s = B (l.getD k default) (loopL B K (l.drop (k + 1))) s := by
  rw [drop_step h]; rfl
theorem loopL_end {B : α → (σ → ρ) → σ → ρ} {K : σ → ρ} {l : List α} {k : Nat} {s : σ} (h : l.length ≤ k) : loopL B K (l.drop k) s = K s := by
  rw [List.drop_eq_nil_of_le h]; rfl
theorem loopN_step {B : (σ → ρ) → σ → ρ} {K : σ → ρ} {N k : Nat} {s : σ} (h : k < N) : loopN B K (N - k) s = B (loopN B K (N - (k + 1))) s := by
  rw [show N - k = (N - (k + 1)) + 1 by omega]; rfl
theorem loopN_end {B : (σ → ρ) → σ → ρ} {K : σ → ρ} {N k : Nat} {s : σ} (h : N ≤ k) : loopN B K (N - k) s = K s := by
  rw [show N - k = 0 by omega]; rfl
end

section
variable {α σ ρ : Type}
theorem loopN_inv {B : (σ → ρ) → σ → ρ} {K : σ → ρ} (I : Nat → σ → Prop) (Q : ρ → Prop) (hB : ∀ n r s, I (n + 1) s → (∀ s', I n s' → Q (r s')) → Q (B r s)) (hK : ∀ s, I 0 s → Q (K s)) : ∀ n s, I n s → Q (loopN B K n s)
  | 0, s, h => hK s h
  | n + 1, s, h => hB n _ s h (loopN_inv I Q hB hK n)
end
theorem m5 (x : Res) (l : List Res) : (x :: l).eraseIdx 0 = l := rfl
theorem m6 (x : Res) (l : List Res) (n : Nat) : (x :: l).eraseIdx (n + 1) = x :: l.eraseIdx n := rfl

section
variable {w w0 : World} {S : List Nat} {R : List (World → Prop)} {L : List Res}
theorem Own.order (H : Own w0 S R L w) (p : List Nat) (hp : p.isPerm (List.range L.length) = true) {L' : List Res} (hL : p.filterMap (fun i => L[i]?) = L') : Own w0 S R L' w := by
  subst hL
  have h1 : p.Perm (List.range L.length) := List.isPerm_iff.1 hp
  have h2 : (List.range L.length).filterMap (fun i => L[i]?) = L := by
    have : ∀ l : List Res, (List.range l.length).filterMap (fun i => l[i]?) = l := by
      intro l
      induction l with
      | nil => rfl
      | cons x l ih =>
        rw [List.length_cons, List.range_succ_eq_map, List.filterMap_cons]
        simp only [List.getElem?_cons_zero, List.filterMap_map]
        congr 1
    exact this L
  have h3 := h1.filterMap (fun i => L[i]?)
  rw [h2] at h3
  exact H.perm h3.symm
end
def gv (c : Bool) (v : Value) : Value := bif c then v else undef
theorem gv_t {c : Bool} {v : Value} (h : c = true) : gv c v = v := bt h
section
variable {P : Program} {ops : Array Oper} {rest : List Oper} {o : Oper} {a : Act} {w w0 : World} {Q : Exit → Act → World → Prop} {S : List Nat} {R : List (World → Prop)} {L : List Res}
theorem wn_t {j : Nat} {b : Bool} (hg : o.guard = some (j, true)) (hy : yielded ops a.tmps j = some b) : Region.wanted o (yielded ops a.tmps) = b := by
  unfold Region.wanted; simp only [hg, hy]; cases b <;> rfl
theorem wn_f {j : Nat} {b : Bool} (hg : o.guard = some (j, false)) (hy : yielded ops a.tmps j = some b) : Region.wanted o (yielded ops a.tmps) = !b := by
  unfold Region.wanted; simp only [hg, hy]; cases b <;> rfl
theorem yielded_g {j t : Nat} {c b : Bool} (h1 : (ops[j]?).bind (·.dst) = some t) (h2 : a.tmps[t]? = some (gv c (.bool b))) : yielded ops a.tmps j = bif c then some b else none := by
  unfold yielded; rw [h1]; simp only [Option.bind_some, h2]; cases c <;> rfl
theorem wn_tg {j t : Nat} {c b : Bool} (hg : o.guard = some (j, true)) (h1 : (ops[j]?).bind (·.dst) = some t) (h2 : a.tmps[t]? = some (gv c (.bool b))) : Region.wanted o (yielded ops a.tmps) = (c && b) := by
  unfold Region.wanted; simp only [hg, yielded_g h1 h2]; cases c <;> cases b <;> rfl
theorem wn_fg {j t : Nat} {c b : Bool} (hg : o.guard = some (j, false)) (h1 : (ops[j]?).bind (·.dst) = some t) (h2 : a.tmps[t]? = some (gv c (.bool b))) : Region.wanted o (yielded ops a.tmps) = (c && !b) := by
  unfold Region.wanted; simp only [hg, yielded_g h1 h2]; cases c <;> cases b <;> rfl

theorem wl_g {C : Bool} {v : Value} (hw : Region.wanted o (yielded ops a.tmps) = C) (hrun : C = true → (execOp a.eval o).run P w = .ok (.value v) w)
    (h : wpList P ops Q rest (a.put o.dst (gv C v)) w) : wpList P ops Q (o :: rest) a w := by
  cases C
  · exact wl_skip hw h
  · exact wl_run hw (hrun rfl) h
theorem wl_gE (H : Own w0 S R L w) {C : Bool} (hw : Region.wanted o (yielded ops a.tmps) = C) {f : FuncId} {args : Array Value} (hrun : C = true → ∀ w, (execOp a.eval o).run P w = .ok (.enter f args) w) {v : Value}
    (hc : C = true → Calls P f args w fun e w' => e = .returned v ∧ Ext w w')
    (h : ∀ w', Own w0 S R L w' → wpList P ops Q rest (a.put o.dst (gv C v)) w') : wpList P ops Q (o :: rest) a w := by
  cases C
  · exact wl_skip hw (h w H)
  · exact wl_callE H hw (hrun rfl) (hc rfl) h
theorem wq_g {C : Bool} {QQ : Act → Prop} {I : World → Prop} {v : Value} (hw : Region.wanted o (yielded ops a.tmps) = C) (hrun : C = true → ∀ w, I w → (execOp a.eval o).run P w = .ok (.value v) w)
    (h : wpQuiet P ops I QQ rest (a.put o.dst (gv C v))) : wpQuiet P ops I QQ (o :: rest) a := by
  cases C
  · exact wq_skip hw h
  · exact wq_run hw (hrun rfl) h
theorem rp_pickA {c x y : Operand} (ho : o.op = .pick c x y) {p q : Bool} (hc : a.eval c = .bool p) (hx : a.eval x = gv p (.bool q)) (hy : a.eval y = .bool false) :
    (execOp a.eval o).run P w = .ok (.value (.bool (p && q))) w := by
  unfold execOp; rw [ho]; simp only [hc, hx, hy]; cases p <;> rfl
theorem rp_pickO {c x y : Operand} (ho : o.op = .pick c x y) {p q : Bool} (hc : a.eval c = .bool p) (hx : a.eval x = .bool true) (hy : a.eval y = gv (!p) (.bool q)) :
    (execOp a.eval o).run P w = .ok (.value (.bool (p || q))) w := by
  unfold execOp; rw [ho]; simp only [hc, hx, hy]; cases p <;> rfl
theorem rp_pickAg {c x y : Operand} (ho : o.op = .pick c x y) {g p q : Bool} (h : g = true) (hc : a.eval c = gv g (.bool p)) (hx : a.eval x = gv (g && p) (.bool q)) (hy : a.eval y = .bool false) :
    (execOp a.eval o).run P w = .ok (.value (.bool (p && q))) w := by
  subst h
  exact rp_pickA ho hc hx hy
theorem rp_pickOg {c x y : Operand} (ho : o.op = .pick c x y) {g p q : Bool} (h : g = true) (hc : a.eval c = gv g (.bool p)) (hx : a.eval x = .bool true) (hy : a.eval y = gv (g && !p) (.bool q)) :
    (execOp a.eval o).run P w = .ok (.value (.bool (p || q))) w := by
  subst h
  exact rp_pickO ho hc hx hy

theorem SlIn.take {α : Type} [Inhabited α] {n : Nat} {en : α → List Value} {s : Sl α} (hs : SlIn n en s w) (h : Nat) (hh : h ≤ s.l.length) : SlIn n en ⟨s.ad, s.cap, s.l.take h⟩ w := by
  refine ⟨fun i hi => ?_, hs.2.1, by have := hs.2.2; simp; omega, by have := hs.2.2; simp; omega⟩
  have hi' : i < h ∧ i < s.l.length := by simp at hi; omega
  have := hs.1 i hi'.2
  simpa [Sl.blk, Sl.off, List.getD, List.getElem?_take, hi'.1] using this
theorem rp_slice_slh {α : Type} [Inhabited α] {n : Nat} {en : α → List Value} {s : Sl α} (hs : SlIn n en s w) {T : TypeId} {x hi : Operand} (ho : o.op = .slice T x none (some hi) none) {e : Nat} (hT : P.underlying T = some (.slice e)) (hn : (P.info? e).map (·.size) = some n)
    (hx : a.eval x = s.val) {kd : IntKind} (h : Nat) (hk : a.eval hi = .int kd (h : Int)) (hlt : h ≤ s.l.length) :
    (execOp a.eval o).run P w = .ok (.value ((⟨s.ad, s.cap, s.l.take h⟩ : Sl α).val)) w := by
  obtain ⟨i, hi', hsz⟩ := Option.map_eq_some_iff.1 hn
  have he : P.elem T = e := by simp [Program.elem, hT]
  have hz : (sizeOf e).run P w = .ok n w := by simp [sizeOf, typeInfo, hi', hsz]
  have hc := hs.2.2
  have := run_slice_h (P := P) w T s.ad s.l.length s.cap (by rw [hT, he]) kd (h : Int) (by omega) (by omega)
  rw [he, hz, Result.andThen_ok] at this
  unfold execOp; rw [ho]
  simp only [hx, hk, Option.map_none, Option.map_some, Sl.val, Instr.sliceAt, Sem.run_bind, run_underlying hT w, Result.andThen_ok, this]
  simp only [sliced, Int.toNat_natCast, List.length_take, Nat.min_eq_left hlt, Nat.sub_zero, Nat.zero_mul]
  have e0 : (s.ad.map (·.add 0)) = s.ad := by
    cases s.ad with
    | none => rfl
    | some x => simp [Addr.add]
  rw [e0, ite_self]
  rfl
def slAd {α : Type} (s : Sl α) (l n : Nat) : Option Addr := if s.cap = l then s.ad else s.ad.map (·.add (l * n))
theorem SlIn.part {α : Type} [Inhabited α] {n : Nat} {en : α → List Value} {s : Sl α} (hs : SlIn n en s w) (l h : Nat) (hl : l ≤ h) (hh : h ≤ s.l.length) : SlIn n en ⟨slAd s l n, s.cap - l, (s.l.take h).drop l⟩ w := by
  refine ⟨fun i hi => ?_, hs.2.1, by have := hs.2.2; simp; omega, by have := hs.2.2; simp; omega⟩
  have hi' : l + i < h ∧ l + i < s.l.length := by simp at hi; omega
  obtain ⟨h1, h2⟩ := hs.1 (l + i) hi'.2
  have hc := hs.2.2
  have e1 : slAd s l n = some ⟨s.blk, s.off + l * n, none⟩ := by
    unfold slAd
    rw [if_neg (by omega), h1]
    simp [Addr.add_mid]
  have e2 : ((s.l.take h).drop l).getD i default = s.l.getD (l + i) default := by
    simp [List.getD, List.getElem?_drop, List.getElem?_take, hi'.1]
  refine ⟨by simp [e1, Sl.blk, Sl.off], ?_⟩
  show w.rangeAt (slAd s l n |>.getD default).block ((slAd s l n |>.getD default).off + i * n) (en (((s.l.take h).drop l).getD i default))
  rw [e1, e2]
  simp only [Option.getD_some]
  rw [show s.off + l * n + i * n = s.off + (l + i) * n by rw [Nat.add_mul]; omega]
  exact h2
theorem rp_slice_sll {α : Type} [Inhabited α] {n : Nat} {en : α → List Value} {s : Sl α} (hs : SlIn n en s w) {T : TypeId} {x lo : Operand} (ho : o.op = .slice T x (some lo) none none) {e : Nat} (hT : P.underlying T = some (.slice e)) (hn : (P.info? e).map (·.size) = some n)
    (hx : a.eval x = s.val) {kl : IntKind} (l : Nat) (hl : a.eval lo = .int kl (l : Int)) (hlt : l ≤ s.l.length) :
    (execOp a.eval o).run P w = .ok (.value ((⟨slAd s l n, s.cap - l, (s.l.take s.l.length).drop l⟩ : Sl α).val)) w := by
  obtain ⟨i, hi', hsz⟩ := Option.map_eq_some_iff.1 hn
  have he : P.elem T = e := by simp [Program.elem, hT]
  have hz : (sizeOf e).run P w = .ok n w := by simp [sizeOf, typeInfo, hi', hsz]
  have hc := hs.2.2
  have := run_slice_l (P := P) w T s.ad s.l.length s.cap (by rw [hT, he]) kl (l : Int) (by omega) (by omega)
  rw [he, hz, Result.andThen_ok] at this
  unfold execOp; rw [ho]
  simp only [hx, hl, Option.map_none, Option.map_some, Sl.val, Instr.sliceAt, Sem.run_bind, run_underlying hT w, Result.andThen_ok, this]
  simp only [sliced, Int.toNat_natCast, List.length_drop, List.length_take, Nat.min_self, slAd]
  rfl
theorem rp_indexAddr_arrI {T : TypeId} {x ix : Operand} (ho : o.op = .indexAddr T x ix) {len e : Nat} (hT : P.underlying T = some (.array len e)) {n : Nat} (hn : (P.info? e).map (·.size) = some n)
    {b off : Nat} (hx : a.eval x = .pointer (some ⟨b, off, none⟩)) {kd : IntKind} (q : Int) (h0 : 0 ≤ q) (hk : a.eval ix = .int kd q) (hlt : q.toNat < len) (r : Nat) (hr : off + q.toNat * n = r) :
    (execOp a.eval o).run P w = .ok (.value (.pointer (some ⟨b, r, none⟩))) w :=
  rp_indexAddr_arr ho hT hn hx q.toNat (by rw [hk, Int.toNat_of_nonneg h0]) hlt r hr
theorem rp_vconv {v v' : Value} (h : (execOp a.eval o).run P w = .ok (.value v) w) (e : v = v') : (execOp a.eval o).run P w = .ok (.value v') w := by subst e; exact h
theorem rp_len_row (H : Own w0 S R L w) (i : Nat) {v : Value} {e size n : Nat} {xs : List Value} (hi : L[i]? = some (.row v e size n xs)) {x : Operand} {T : TypeId} {dst : Option Tmp} {ty : TypeId} {pos : String} {after : Array Edge} {guard : Option (Nat × Bool)}
    {e' : TypeId} (hT : P.underlying T = some (.slice e')) (hx : a.eval x = v) :
    (execOp a.eval { dst, op := .call { callee := .builtin .len, args := #[x], argTypes := #[T] }, type := ty, pos, after, guard }).run P w = .ok (.value (iv (n : Int))) w := by
  rcases (H.at hi).2 with ⟨rfl, h0⟩ | ⟨g, cap, cur, rfl, _⟩
  · subst h0
    exact rp_len_slice hT hx
  · exact rp_len_slice hT hx
def cutP (I : Act → World → Prop) (Q : Exit → Act → World → Prop) : Exit → Act → World → Prop
  | .normal, a, w => I a w
  | e, a, w => Q e a w
theorem wp_cutX {c : Code} (I : Act → World → Prop) (h1 : c.wp P (cutP I Q) a w) (h2 : ∀ a' w', I a' w' → Q .normal a' w') : c.wp P Q a w :=
  wp_mono h1 fun e a' w' h => by cases e <;> first | exact h2 _ _ h | exact h

theorem fresh_row {β : Type} [Inhabited β] {n e len : Nat} {en : β → List Value} {v : Value} {xs : List Value} (H : Own w0 [] R L w) (i : Nat) (hi : L[i]? = some (.row v e n len xs)) (l : List β) (hxs : xs = l.flatMap en) (hlen : len = l.length) (hen : ∀ x, (en x).length = n ∧ 0 < n) (hl : l.length ≤ 140737488355328) :
    ∃ x : Option Addr × Nat, v = (⟨x.1, x.2, l⟩ : Sl β).val ∧ Fresh w0 w (SlIn n en ⟨x.1, x.2, l⟩) := by
  have hr := H.at hi
  subst hlen
  rcases hr.2 with ⟨rfl, h0⟩ | ⟨g, cap, cur, rfl, _, hg, hnc, _, hcs, htk⟩
  · refine ⟨(none, 0), by simp [Sl.val, h0], fun w'' _ => ⟨fun i hi => ?_, hen, hl, by show l.length ≤ 0; omega⟩⟩
    simp only at hi
    omega
  · refine ⟨(some ⟨g, 0, none⟩, cap), rfl, fun w'' hw => ?_⟩
    have hn : w0.heap.size ≤ g := by
      rcases H.new _ (List.mem_of_getElem? hi) g rfl with h | h
      · exact h
      · simp at h
    refine slin_blk (w := w'') ((hw g hn (Array.getElem?_eq_some_iff.1 hg).1).trans hg) ?_ hen hl hnc
    rw [← hxs, ← htk]
    exact List.take_prefix ..
theorem Own.newrow (H : Own w0 [] R L w) (i : Nat) {r : Res} (hi : L[i]? = some r) : ∀ b, r.foot = some b → w0.heap.size ≤ b := fun b hb => by
  rcases H.new _ (List.mem_of_getElem? hi) b hb with h | h
  · exact h
  · simp at h
theorem Own.rowone (H : Own w0 S R L w) (i : Nat) {v : Value} {e size n : Nat} {xs : List Value} (hi : L[i]? = some (.row v e size n xs)) : v.oneCell' = true := by
  rcases (H.at hi).2 with ⟨rfl, _⟩ | ⟨g, cap, cur, rfl, _⟩ <;> rfl
theorem Own.rowNilT {α : Type} (H : Own w0 S R L w) (en : α → List Value) (e : TypeId) (size : Nat) : Own w0 S R (.row (.slice none 0 0) e size ([] : List α).length (([] : List α).flatMap en) :: L) w := H.rowNil e size
theorem slin_nil {α : Type} [Inhabited α] {n : Nat} {en : α → List Value} (h : ∀ x, (en x).length = n ∧ 0 < n) {ad : Option Addr} {cap : Nat} : SlIn n en ⟨ad, cap, []⟩ w := ⟨fun i hi => by simp at hi, h, by simp, by simp⟩
def FreshAt (w0 : World) (φ : World → Prop) (w : World) : Prop :=
  ∃ B : Nat → Prop, (∀ b, B b → w0.heap.size ≤ b ∧ b < w.heap.size) ∧ ∀ w'', (∀ b, B b → w''.heap[b]? = w.heap[b]?) → φ w''
theorem FreshAt.now {φ : World → Prop} (h : FreshAt w0 φ w) : φ w := by
  obtain ⟨B, _, h2⟩ := h
  exact h2 w (fun _ _ => rfl)
theorem FreshAt.fresh {φ : World → Prop} (h : FreshAt w0 φ w) : Fresh w0 w φ := by
  obtain ⟨B, h1, h2⟩ := h
  exact fun w'' hw => h2 w'' (fun b hb => hw b (h1 b hb).1 (h1 b hb).2)
theorem Own.freshAt (H : Own w0 S R L w) {w' : World} (he : Ext w w') {φ : World → Prop} (hf : Fresh w w' φ) : Own w0 S (FreshAt w0 φ :: R) L w' :=
  H.learn he _ (fun w'' h _ => ⟨fun b => w.heap.size ≤ b ∧ b < w'.heap.size, fun b hb => ⟨Nat.le_trans H.size hb.1, by
    have h1 := h b hb.1 hb.2
    rw [Array.getElem?_eq_getElem hb.2] at h1
    exact (Array.getElem?_eq_some_iff.1 h1).1⟩, fun w3 h3 => hf w3 (fun b h1 h2 => (h3 b ⟨h1, h2⟩).trans (h b h1 h2))⟩)
theorem wl_callFA (H : Own w0 S R L w) (hw : Region.wanted o (yielded ops a.tmps) = true) {f : FuncId} {args : Array Value} (hrun : ∀ w, (execOp a.eval o).run P w = .ok (.enter f args) w) {X : Type} {val : X → Value} {φ : X → World → Prop}
    (hc : Calls P f args w fun e w' => ∃ x, e = .returned (val x) ∧ Ext w w' ∧ Fresh w w' (φ x))
    (h : ∀ x w', Own w0 S (FreshAt w0 (φ x) :: R) L w' → wpList P ops Q rest (a.put o.dst (val x)) w') : wpList P ops Q (o :: rest) a w :=
  wpList_step fun K hK => by
    rw [if_pos hw]
    unfold Oper.wp
    rw [hrun, Oper.upon_enter]
    exact hc.mono fun e w' ⟨x, he, hE, hF⟩ => by subst he; exact hK _ _ (h x _ (H.freshAt hE hF))
theorem wl_appendT {α : Type} (en : α → List Value) (H : Own w0 S R L w) (i : Nat) {dst : Option Tmp} {x y : Operand} {T : TypeId} {ty : TypeId} {pos : String} {after : Array Edge} {guard : Option (Nat × Bool)}
    (hw : Region.wanted { dst, op := .call { callee := .builtin .append, args := #[x, y], argTypes := #[T, T] }, type := ty, pos, after, guard } (yielded ops a.tmps) = true)
    {e size bytes m c : Nat} {z v : Value} {l : List α} {ad : Addr} (hT : P.underlying T = some (.slice e)) (hs : (P.info? e).map (·.size) = some size) (hz : (P.info? e).bind (·.zero) = some z) (hby : (P.info? e).map (·.bytes) = some bytes)
    (hzs : z.cells.size = size) (hsz : 0 < size) (hi : L[i]? = some (.row v e size l.length (l.flatMap en))) (hx : a.eval x = v) (hy : a.eval y = .slice (some ad) m c)
    (ys : List α) (hm : m = ys.length) (hen : ∀ x, (en x).length = size ∧ 0 < size) (hnews : ∀ j u, (ys.flatMap en)[j]? = some u → w.cell? (ad.add j) = some u) (h1 : ∀ y, ∀ u ∈ en y, u.oneCell' = true) (hb : (l.length + m) * bytes ≤ 140737488355328) (hn : l.length + m ≤ 9223372036854775807)
    (hS : ∀ b ∈ S, v.ownBlock ≠ some b)
    (h : ∀ v' w', Own w0 S R (L.set i (.row v' e size (l ++ ys).length ((l ++ ys).flatMap en))) w' → wpList P ops Q rest (a.put dst v') w') :
    wpList P ops Q ({ dst, op := .call { callee := .builtin .append, args := #[x, y], argTypes := #[T, T] }, type := ty, pos, after, guard } :: rest) a w := by
  subst hm
  have hfl : ∀ l : List α, (l.flatMap en).length = l.length * size := by
    intro l
    induction l with
    | nil => simp
    | cons x l ih => simp [List.flatMap_cons, ih, (hen x).1, Nat.succ_mul]; omega
  refine wl_append H i hw hT hs hz hby hzs hsz hi hx hy (hfl ys) hnews (fun u hu => ?_) hb hn hS ?_
  · obtain ⟨y, _, hy⟩ := List.mem_flatMap.1 hu
    exact h1 y u hy
  · simpa only [List.length_append, List.flatMap_append] using h
theorem sl_news {α : Type} [Inhabited α] {n : Nat} {en : α → List Value} {s : Sl α} (hs : SlIn n en s w) (j : Nat) (u : Value) (h : (s.l.flatMap en)[j]? = some u) : ∃ ad : Addr, s.ad = some ad ∧ w.cell? (ad.add j) = some u := by
  have hn := hs.2.1
  have key : ∀ (l : List α) (j : Nat) (u : Value), (l.flatMap en)[j]? = some u → ∃ i k, i < l.length ∧ (en (l.getD i default))[k]? = some u ∧ j = i * n + k := by
    intro l
    induction l with
    | nil => intro j u h; simp at h
    | cons x l ih =>
      intro j u h
      rw [List.flatMap_cons] at h
      rcases Nat.lt_or_ge j n with hj | hj
      · rw [List.getElem?_append_left (by rw [(hn x).1]; exact hj)] at h
        exact ⟨0, j, by simp, by simpa using h, by omega⟩
      · rw [List.getElem?_append_right (by rw [(hn x).1]; exact hj), (hn x).1] at h
        obtain ⟨i, k, h1, h2, h3⟩ := ih _ _ h
        exact ⟨i + 1, k, by simpa using h1, by simpa using h2, by rw [Nat.succ_mul]; omega⟩
  obtain ⟨i, k, h1, h2, rfl⟩ := key _ _ _ h
  obtain ⟨h3, h4⟩ := hs.1 i h1
  refine ⟨_, h3, ?_⟩
  have := h4 k u h2
  rw [Addr.add_mid]
  simpa [Nat.add_assoc] using this
end
theorem eByteN (x : UInt8) : (eByte x).length = 1 ∧ 0 < 1 := ⟨rfl, by decide⟩
theorem eStrN (x : ByteArray) : (eStr x).length = 1 ∧ 0 < 1 := ⟨rfl, by decide⟩
theorem eIntN (x : Int) : (eInt x).length = 1 ∧ 0 < 1 := ⟨rfl, by decide⟩
theorem eSlN {α : Type} (x : Sl α) : (eSl x).length = 1 ∧ 0 < 1 := ⟨rfl, by decide⟩
theorem insN (x : Ins) : x.cells.length = 10 ∧ 0 < 10 := ⟨rfl, by decide⟩
theorem condN (x : Cond) : x.cells.length = 5 ∧ 0 < 5 := ⟨rfl, by decide⟩
end Go.Proofs.YtimonjemjhecoaaGreatDoor
