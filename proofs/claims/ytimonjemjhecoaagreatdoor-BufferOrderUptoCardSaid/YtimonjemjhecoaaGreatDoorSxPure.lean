/- What each operation that only computes yields: bytes as UInt8, ints as Int, booleans as Bool. No program in sight. -/
import Derived.Test.YtimonjemjhecoaaGreatDoorSxMix
namespace Go.Proofs.YtimonjemjhecoaaGreatDoor
open Go.RowKit
open Go

abbrev bv (b : UInt8) : Value := .int .u8 (b.toNat : Int)
abbrev iv (n : Int) : Value := .int .i64 n
def enc (l : List UInt8) : List Value := l.map fun b => .int .u8 (b.toNat : Int)

@[simp] theorem enc_length (l : List UInt8) : (enc l).length = l.length := by simp [enc]
theorem enc_get {l : List UInt8} {i : Nat} (h : i < l.length) : (enc l)[i]? = some (.int .u8 ((l.getD i 0).toNat : Int)) := by
  simp [enc, List.getElem?_eq_getElem h, List.getD]
theorem enc_take (l : List UInt8) (n : Nat) : (enc l).take n = enc (l.take n) := by simp [enc, List.map_take]
theorem enc_drop (l : List UInt8) (n : Nat) : (enc l).drop n = enc (l.drop n) := by simp [enc, List.map_drop]
theorem enc_append (l m : List UInt8) : enc l ++ enc m = enc (l ++ m) := by simp [enc]
theorem enc_set (l : List UInt8) (i : Nat) (b : UInt8) : (enc l).set i (.int .u8 (b.toNat : Int)) = enc (l.set i b) := by simp [enc, List.map_set]
theorem enc_replicate (n : Nat) : List.replicate n (Value.int .u8 0) = enc (List.replicate n 0) := by simp [enc]
theorem enc_one {l : List UInt8} : ∀ v ∈ enc l, v.oneCell' = true := by
  intro v hv
  obtain ⟨b, _, rfl⟩ := List.mem_map.1 hv
  rfl
theorem enc_inj {l m : List UInt8} (h : enc l = enc m) : l = m := by
  refine (List.map_inj_right (fun a b hab => ?_)).1 h
  simp only [Value.int.injEq, true_and] at hab
  exact UInt8.toNat_inj.1 (by omega)

theorem u8_lt {p q : UInt8} (h : decide (p < q) = true) : p.toNat < q.toNat := UInt8.lt_iff_toNat_lt.1 (of_decide_eq_true h)
theorem u8_ge {p q : UInt8} (h : decide (p < q) = false) : q.toNat ≤ p.toNat := by
  have : ¬ p < q := by simpa using h
  exact Nat.not_lt.1 (fun h' => this (UInt8.lt_iff_toNat_lt.2 h'))
theorem u8_le {p q : UInt8} (h : decide (p ≤ q) = true) : p.toNat ≤ q.toNat := UInt8.le_iff_toNat_le.1 (of_decide_eq_true h)
theorem u8_gt {p q : UInt8} (h : decide (p ≤ q) = false) : q.toNat < p.toNat := by
  have : ¬ p ≤ q := by simpa using h
  exact Nat.not_le.1 (fun h' => this (UInt8.le_iff_toNat_le.2 h'))
theorem u8_eq {p q : UInt8} (h : (p == q) = true) : p.toNat = q.toNat := by rw [eq_of_beq h]
theorem u8_eq2 {p q : UInt8} (h : (p != q) = false) : p.toNat = q.toNat := by
  have : p = q := by simpa using h
  rw [this]
theorem u8_ne {p q : UInt8} (h : (p == q) = false) : p.toNat ≠ q.toNat := fun e => by
  have : p ≠ q := by simpa using h
  exact this (UInt8.toNat_inj.1 e)
theorem u8_ne2 {p q : UInt8} (h : (p != q) = true) : p.toNat ≠ q.toNat := fun e => by
  have : p ≠ q := by simpa using h
  exact this (UInt8.toNat_inj.1 e)

section
variable {P : Program} {o : Oper} {a : Act} {w : World}

theorem rp_move {x : Operand} (ho : o.op = .move x) {v : Value} (hx : a.eval x = v) : (execOp a.eval o).run P w = .ok (.value v) w := by
  subst hx; unfold execOp; rw [ho]; rfl
theorem rp_assign {x : Operand} (ho : o.op = .assign x) {v : Value} (hx : a.eval x = v) : (execOp a.eval o).run P w = .ok (.value v) w := by
  subst hx; unfold execOp; rw [ho]; rfl
theorem rp_pickT {c x y : Operand} (ho : o.op = .pick c x y) (hc : a.eval c = .bool true) {u : Value} (hx : a.eval x = u) :
    (execOp a.eval o).run P w = .ok (.value u) w := by
  subst hx; unfold execOp; rw [ho]; simp only [hc]; rfl
theorem rp_pickF {c x y : Operand} (ho : o.op = .pick c x y) (hc : a.eval c = .bool false) {v : Value} (hy : a.eval y = v) :
    (execOp a.eval o).run P w = .ok (.value v) w := by
  subst hy; unfold execOp; rw [ho]; simp only [hc]; rfl
theorem rp_u8_add {T T' : TypeId} {x y : Operand} (ho : o.op = .binOp .add T x y T') (p q : UInt8) (hx : a.eval x = bv p) (hy : a.eval y = bv q) :
    (execOp a.eval o).run P w = .ok (.value (bv (p + q))) w := by
  unfold execOp; rw [ho]; simp only [hx, hy]
  show Result.ok (Next.value (.int .u8 (IntKind.u8.wrap ((p.toNat : Int) + q.toNat)))) w = _
  rw [IntKind.wrap_u8]
  congr 3
theorem rp_u8_sub {T T' : TypeId} {x y : Operand} (ho : o.op = .binOp .sub T x y T') (p q : UInt8) (hx : a.eval x = bv p) (hy : a.eval y = bv q) :
    (execOp a.eval o).run P w = .ok (.value (bv (p - q))) w := by
  unfold execOp; rw [ho]; simp only [hx, hy]
  show Result.ok (Next.value (.int .u8 (IntKind.u8.wrap ((p.toNat : Int) - q.toNat)))) w = _
  rw [IntKind.wrap_u8]
  congr 3
  have h1 := p.toNat_lt
  have h2 := q.toNat_lt
  rw [UInt8.toNat_sub]
  omega
theorem rp_u8_xor {T T' : TypeId} {x y : Operand} (ho : o.op = .binOp .xor T x y T') (p q : UInt8) (hx : a.eval x = bv p) (hy : a.eval y = bv q) :
    (execOp a.eval o).run P w = .ok (.value (bv (p ^^^ q))) w := by
  unfold execOp; rw [ho]; simp only [hx, hy]
  show Result.ok (Next.value (.int .u8 (IntKind.u8.wrap ((BitVec.ofInt 8 (p.toNat : Int) ^^^ BitVec.ofInt 8 (q.toNat : Int)).toNat : Int)))) w = _
  rw [IntKind.wrap_u8]
  congr 3
  have e : ∀ r : UInt8, BitVec.ofInt 8 (r.toNat : Int) = r.toBitVec := by
    intro r
    apply BitVec.eq_of_toNat_eq
    have := r.toNat_lt
    simp [BitVec.toNat_ofInt]
  rw [e, e, ← UInt8.toBitVec_xor]
  have := (p ^^^ q).toNat_lt
  show ((p ^^^ q).toNat : Int) % 256 = _
  omega
theorem rp_u8_eql {T T' : TypeId} {x y : Operand} (ho : o.op = .binOp .eql T x y T') (p q : UInt8) (hx : a.eval x = bv p) (hy : a.eval y = bv q) :
    (execOp a.eval o).run P w = .ok (.value (.bool (p == q))) w := by
  unfold execOp; rw [ho]; simp only [hx, hy]
  show Result.ok (Next.value (.bool ((p.toNat : Int) == q.toNat))) w = _
  congr 3
  rw [Bool.eq_iff_iff]
  simp only [beq_iff_eq, ← UInt8.toNat_inj]
  omega
theorem rp_u8_neq {T T' : TypeId} {x y : Operand} (ho : o.op = .binOp .neq T x y T') (p q : UInt8) (hx : a.eval x = bv p) (hy : a.eval y = bv q) :
    (execOp a.eval o).run P w = .ok (.value (.bool (p != q))) w := by
  unfold execOp; rw [ho]; simp only [hx, hy]
  show Result.ok (Next.value (.bool ((p.toNat : Int) != q.toNat))) w = _
  congr 3
  rw [Bool.eq_iff_iff]
  simp only [bne_iff_ne, ne_eq, ← UInt8.toNat_inj]
  omega
theorem rp_u8_lss {T T' : TypeId} {x y : Operand} (ho : o.op = .binOp .lss T x y T') (p q : UInt8) (hx : a.eval x = bv p) (hy : a.eval y = bv q) :
    (execOp a.eval o).run P w = .ok (.value (.bool (decide (p < q)))) w := by
  unfold execOp; rw [ho]; simp only [hx, hy]
  show Result.ok (Next.value (.bool (decide ((p.toNat : Int) < q.toNat)))) w = _
  congr 3
  simp [UInt8.lt_iff_toNat_lt]
theorem rp_u8_leq {T T' : TypeId} {x y : Operand} (ho : o.op = .binOp .leq T x y T') (p q : UInt8) (hx : a.eval x = bv p) (hy : a.eval y = bv q) :
    (execOp a.eval o).run P w = .ok (.value (.bool (decide (p ≤ q)))) w := by
  unfold execOp; rw [ho]; simp only [hx, hy]
  show Result.ok (Next.value (.bool (decide ((p.toNat : Int) ≤ q.toNat)))) w = _
  congr 3
  simp [UInt8.le_iff_toNat_le]
theorem rp_u8_gtr {T T' : TypeId} {x y : Operand} (ho : o.op = .binOp .gtr T x y T') (p q : UInt8) (hx : a.eval x = bv p) (hy : a.eval y = bv q) :
    (execOp a.eval o).run P w = .ok (.value (.bool (decide (q < p)))) w := by
  unfold execOp; rw [ho]; simp only [hx, hy]
  show Result.ok (Next.value (.bool (decide ((p.toNat : Int) > q.toNat)))) w = _
  congr 3
  simp [UInt8.lt_iff_toNat_lt]
theorem rp_u8_geq {T T' : TypeId} {x y : Operand} (ho : o.op = .binOp .geq T x y T') (p q : UInt8) (hx : a.eval x = bv p) (hy : a.eval y = bv q) :
    (execOp a.eval o).run P w = .ok (.value (.bool (decide (q ≤ p)))) w := by
  unfold execOp; rw [ho]; simp only [hx, hy]
  show Result.ok (Next.value (.bool (decide ((p.toNat : Int) ≥ q.toNat)))) w = _
  congr 3
  simp [UInt8.le_iff_toNat_le]

theorem i64_fit {n : Int} (h : -9223372036854775808 ≤ n ∧ n ≤ 9223372036854775807) : IntKind.i64.wrap n = n := IntWalk.i64_in n h
theorem rp_int_add {T T' : TypeId} {x y : Operand} (ho : o.op = .binOp .add T x y T') (p q : Int) (hx : a.eval x = iv p) (hy : a.eval y = iv q) (hb : -9223372036854775808 ≤ p + q ∧ p + q ≤ 9223372036854775807) :
    (execOp a.eval o).run P w = .ok (.value (iv (p + q))) w := by
  unfold execOp; rw [ho]; simp only [hx, hy]
  show Result.ok (Next.value (.int .i64 (IntKind.i64.wrap (p + q)))) w = _
  rw [i64_fit hb]
theorem rp_int_sub {T T' : TypeId} {x y : Operand} (ho : o.op = .binOp .sub T x y T') (p q : Int) (hx : a.eval x = iv p) (hy : a.eval y = iv q) (hb : -9223372036854775808 ≤ p - q ∧ p - q ≤ 9223372036854775807) :
    (execOp a.eval o).run P w = .ok (.value (iv (p - q))) w := by
  unfold execOp; rw [ho]; simp only [hx, hy]
  show Result.ok (Next.value (.int .i64 (IntKind.i64.wrap (p - q)))) w = _
  rw [i64_fit hb]
theorem rp_int_subN {T T' : TypeId} {x y : Operand} (ho : o.op = .binOp .sub T x y T') (p q : Nat) (hx : a.eval x = iv p) (hy : a.eval y = iv q) (hb : q ≤ p ∧ (p : Int) ≤ 9223372036854775807) :
    (execOp a.eval o).run P w = .ok (.value (iv ((p - q : Nat) : Int))) w := by
  unfold execOp; rw [ho]; simp only [hx, hy]
  show Result.ok (Next.value (.int .i64 (IntKind.i64.wrap ((p : Int) - q)))) w = _
  rw [i64_fit (by omega), show ((p - q : Nat) : Int) = (p : Int) - q by omega]
theorem rp_int_eql {T T' : TypeId} {x y : Operand} (ho : o.op = .binOp .eql T x y T') (p q : Int) (hx : a.eval x = iv p) (hy : a.eval y = iv q) :
    (execOp a.eval o).run P w = .ok (.value (.bool (p == q))) w := by unfold execOp; rw [ho]; simp only [hx, hy]; rfl
theorem rp_int_neq {T T' : TypeId} {x y : Operand} (ho : o.op = .binOp .neq T x y T') (p q : Int) (hx : a.eval x = iv p) (hy : a.eval y = iv q) :
    (execOp a.eval o).run P w = .ok (.value (.bool (p != q))) w := by unfold execOp; rw [ho]; simp only [hx, hy]; rfl
theorem rp_int_lss {T T' : TypeId} {x y : Operand} (ho : o.op = .binOp .lss T x y T') (p q : Int) (hx : a.eval x = iv p) (hy : a.eval y = iv q) :
    (execOp a.eval o).run P w = .ok (.value (.bool (decide (p < q)))) w := by unfold execOp; rw [ho]; simp only [hx, hy]; rfl
theorem rp_int_leq {T T' : TypeId} {x y : Operand} (ho : o.op = .binOp .leq T x y T') (p q : Int) (hx : a.eval x = iv p) (hy : a.eval y = iv q) :
    (execOp a.eval o).run P w = .ok (.value (.bool (decide (p ≤ q)))) w := by unfold execOp; rw [ho]; simp only [hx, hy]; rfl
theorem rp_int_gtr {T T' : TypeId} {x y : Operand} (ho : o.op = .binOp .gtr T x y T') (p q : Int) (hx : a.eval x = iv p) (hy : a.eval y = iv q) :
    (execOp a.eval o).run P w = .ok (.value (.bool (decide (q < p)))) w := by unfold execOp; rw [ho]; simp only [hx, hy]; rfl
theorem rp_int_geq {T T' : TypeId} {x y : Operand} (ho : o.op = .binOp .geq T x y T') (p q : Int) (hx : a.eval x = iv p) (hy : a.eval y = iv q) :
    (execOp a.eval o).run P w = .ok (.value (.bool (decide (q ≤ p)))) w := by unfold execOp; rw [ho]; simp only [hx, hy]; rfl

theorem rp_u8_to_int {T T' : TypeId} {x : Operand} (ho : o.op = .convert T T' x) {k : IntKind} (hT : P.underlying T = some (.int k)) (hT' : P.underlying T' = some (.int .i64)) (p : UInt8) (hx : a.eval x = bv p) :
    (execOp a.eval o).run P w = .ok (.value (iv (p.toNat : Int))) w := by
  unfold execOp; rw [ho]; simp only [hx]
  simp only [convert, Sem.run_bind, run_underlying hT w, run_underlying hT' w, Result.andThen_ok]
  show Result.ok (Next.value (.int .i64 (IntKind.i64.wrap (p.toNat : Int)))) w = _
  have := p.toNat_lt
  rw [i64_fit (by omega)]
theorem rp_int_to_u8 {T T' : TypeId} {x : Operand} (ho : o.op = .convert T T' x) {k : IntKind} (hT : P.underlying T = some (.int k)) (hT' : P.underlying T' = some (.int .u8)) (p : Int) (hx : a.eval x = iv p) :
    (execOp a.eval o).run P w = .ok (.value (bv (UInt8.ofNat (p % 256).toNat))) w := by
  unfold execOp; rw [ho]; simp only [hx]
  simp only [convert, Sem.run_bind, run_underlying hT w, run_underlying hT' w, Result.andThen_ok]
  show Result.ok (Next.value (.int .u8 (IntKind.u8.wrap p))) w = _
  rw [IntKind.wrap_u8]
  congr 3
  rw [UInt8.toNat_ofNat']
  omega
theorem rp_not {T : TypeId} {x : Operand} (ho : o.op = .unOp .not T x) (p : Bool) (hx : a.eval x = .bool p) : (execOp a.eval o).run P w = .ok (.value (.bool (!p))) w := by
  unfold execOp; rw [ho]; simp only [hx]; rfl
theorem rp_extract {x : Operand} {k : Nat} (ho : o.op = .extract x k) {vs : Array Value} (hx : a.eval x = .tuple vs) {v : Value} (hv : vs[k]? = some v) : (execOp a.eval o).run P w = .ok (.value v) w := by
  unfold execOp; rw [ho]; simp only [hx, Instr.extract, hv]; rfl
theorem rp_nilCheck {x : Operand} (ho : o.op = .nilCheck x) {ad : Addr} (hx : a.eval x = .pointer (some ad)) : (execOp a.eval o).run P w = .ok (.value (.pointer (some ad))) w := by
  unfold execOp; rw [ho]; simp only [hx]; rfl
theorem rp_makeFunc {fn : Fn} {first captured : Array Operand} (ho : o.op = .makeFunc fn first captured) {fs cs : Array Value} (hf : first.map a.eval = fs) (hc : captured.map a.eval = cs) :
    (execOp a.eval o).run P w = .ok (.value (.func fn fs cs)) w := by
  subst hf; subst hc; unfold execOp; rw [ho]; rfl
theorem rp_len_slice {x : Operand} {T : TypeId} {dst : Option Tmp} {ty : TypeId} {pos : String} {after : Array Edge} {guard : Option (Nat × Bool)}
    {e : TypeId} (hT : P.underlying T = some (.slice e)) {ad : Option Addr} {n c : Nat} (hx : a.eval x = .slice ad n c) :
    (execOp a.eval { dst, op := .call { callee := .builtin .len, args := #[x], argTypes := #[T] }, type := ty, pos, after, guard }).run P w = .ok (.value (iv (n : Int))) w := by
  rw [BigFrame.execOp_builtin, BigFrame.builtin_len]
  simp [Builtin.len_, hx, run_underlying hT, goInt]
theorem rp_len_string {x : Operand} {T : TypeId} {dst : Option Tmp} {ty : TypeId} {pos : String} {after : Array Edge} {guard : Option (Nat × Bool)}
    (hT : P.underlying T = some .string) {s : ByteArray} (hx : a.eval x = .string s) :
    (execOp a.eval { dst, op := .call { callee := .builtin .len, args := #[x], argTypes := #[T] }, type := ty, pos, after, guard }).run P w = .ok (.value (iv (s.size : Int))) w := by
  rw [BigFrame.execOp_builtin, BigFrame.builtin_len]
  simp [Builtin.len_, hx, run_underlying hT, goInt]

theorem rp_fieldAddr {T : TypeId} {x : Operand} {k : Nat} (ho : o.op = .fieldAddr T x k) {fs : Array Field} (hT : P.underlying T = some (.struct fs)) {f : Field} (hf : fs[k]? = some f)
    (m : Nat) (hm : f.offset = m) {n : Nat} (hn : (P.info? f.type).map (·.size) = some (n + 1)) {b off : Nat} (hx : a.eval x = .pointer (some ⟨b, off, none⟩)) (r : Nat) (hr : off + m = r) :
    (execOp a.eval o).run P w = .ok (.value (.pointer (some ⟨b, r, none⟩))) w := by
  subst hm hr
  unfold execOp; rw [ho]; simp only [hx]
  obtain ⟨i, hi, hs⟩ := Option.map_eq_some_iff.1 hn
  have hsz : (sizeOf f.type).run P w = .ok (n + 1) w := by simp [sizeOf, typeInfo, hi, hs]
  simp only [Instr.fieldAt, Sem.run_bind, run_underlying hT w, Result.andThen_ok, hf, Instr.sureAddr, Sem.run_pure, fieldPlace, hsz]
  simp [Addr.add_mid]
theorem rp_indexAddr_arr {T : TypeId} {x ix : Operand} (ho : o.op = .indexAddr T x ix) {len e : Nat} (hT : P.underlying T = some (.array len e)) {n : Nat} (hn : (P.info? e).map (·.size) = some n)
    {b off : Nat} (hx : a.eval x = .pointer (some ⟨b, off, none⟩)) {kd : IntKind} (k : Nat) (hk : a.eval ix = .int kd (k : Int)) (hlt : k < len) (r : Nat) (hr : off + k * n = r) :
    (execOp a.eval o).run P w = .ok (.value (.pointer (some ⟨b, r, none⟩))) w := by
  subst hr
  unfold execOp; rw [ho]; simp only [hx, hk]
  obtain ⟨i, hi, hs⟩ := Option.map_eq_some_iff.1 hn
  have hsz : (sizeOf e).run P w = .ok n w := by simp [sizeOf, typeInfo, hi, hs]
  simp only [Instr.indexAt, asIntOf, Sem.run_bind, Sem.run_pure, run_underlying hT w, Result.andThen_ok, Instr.sureAddr]
  rw [if_pos ⟨by omega, by omega⟩]
  simp [hsz, Addr.add_mid]
theorem rp_indexAddr_slice {T : TypeId} {x ix : Operand} (ho : o.op = .indexAddr T x ix) {e : Nat} (hT : P.underlying T = some (.slice e)) {n : Nat} (hn : (P.info? e).map (·.size) = some n)
    {b off len cap : Nat} (hx : a.eval x = .slice (some ⟨b, off, none⟩) len cap) {kd : IntKind} (k : Nat) (hk : a.eval ix = .int kd (k : Int)) (hlt : k < len) :
    (execOp a.eval o).run P w = .ok (.value (.pointer (some ⟨b, off + k * n, none⟩))) w := by
  unfold execOp; rw [ho]; simp only [hx, hk]
  obtain ⟨i, hi, hs⟩ := Option.map_eq_some_iff.1 hn
  have hsz : (sizeOf e).run P w = .ok n w := by simp [sizeOf, typeInfo, hi, hs]
  simp only [Instr.indexAt, asIntOf, Sem.run_bind, Sem.run_pure, run_underlying hT w, Result.andThen_ok]
  rw [if_pos ⟨by omega, by omega⟩]
  simp [hsz, Addr.add_mid]
end

section
variable {P : Program} {o : Oper} {a : Act} {w w0 : World} {S : List Nat} {R : List (World → Prop)} {L : List Res}
theorem rp_load1 (H : Own w0 S R L w) (i : Nat) {t : TypeId} {x : Operand} (ho : o.op = .load t x)
    {b off : Nat} (hx : a.eval x = .pointer (some ⟨b, off, none⟩)) {cs : Array Value} {T : TypeId} {fr : Nat × Nat} (hi : L[i]? = some (.blk b (.cells cs T fr)))
    {d : TypeDesc} (hu : P.underlying t = some d) (hd : oneCellType d = true) {v : Value} (hv : cs[off]? = some v) : (execOp a.eval o).run P w = .ok (.value v) w := run_load1 ho hu hd hx (H.cell1 hi hv)
theorem rp_loadN (H : Own w0 S R L w) (i : Nat) {t : TypeId} {x : Operand} (ho : o.op = .load t x)
    {b off : Nat} (hx : a.eval x = .pointer (some ⟨b, off, none⟩)) {cs : Array Value} {T : TypeId} {fr : Nat × Nat} (hi : L[i]? = some (.blk b (.cells cs T fr)))
    {d : TypeDesc} (hu : P.underlying t = some d) (hd : d.isRow = true) {n : Nat} (hn : (P.info? t).map (·.size) = some n) (hl : off + n ≤ cs.size)
    {cs' : List Value} (hcs : (cs.toList.drop off).take n = cs') : (execOp a.eval o).run P w = .ok (.value (.agg cs'.toArray)) w := by
  subst hcs
  exact run_loadN ho hu hd hx (by rw [hn]; simp; omega) (H.range hi)
theorem rp_load1e (H : Own w0 S R L w) (i : Nat) {t : TypeId} {x : Operand} (ho : o.op = .load t x)
    {b off : Nat} (hx : a.eval x = .pointer (some ⟨b, off, none⟩)) {s : List UInt8} {T : TypeId} {fr : Nat × Nat} (hi : L[i]? = some (.blk b (.cells (enc s).toArray T fr)))
    {d : TypeDesc} (hu : P.underlying t = some d) (hd : oneCellType d = true) (k : Nat) (hk : off = k) (hl : k < s.length) : (execOp a.eval o).run P w = .ok (.value (bv (s.getD k 0))) w := by
  subst hk
  exact run_load1 ho hu hd hx (H.cell1 hi (by simpa using enc_get hl))
theorem rp_loadNe (H : Own w0 S R L w) (i : Nat) {t : TypeId} {x : Operand} (ho : o.op = .load t x)
    {b off : Nat} (hx : a.eval x = .pointer (some ⟨b, off, none⟩)) {s : List UInt8} {T : TypeId} {fr : Nat × Nat} (hi : L[i]? = some (.blk b (.cells (enc s).toArray T fr)))
    {d : TypeDesc} (hu : P.underlying t = some d) (hd : d.isRow = true) {n : Nat} (hn : (P.info? t).map (·.size) = some n) (k : Nat) (hk : off = k) (hl : k + n ≤ s.length) :
    (execOp a.eval o).run P w = .ok (.value (.agg (enc ((s.drop k).take n)).toArray)) w := by
  subst hk
  exact rp_loadN H i ho hx hi hu hd hn (by simpa using hl) (by simp [enc_drop, enc_take])

theorem rp_loadWe (H : Own w0 S R L w) (i : Nat) {t : TypeId} {x : Operand} (ho : o.op = .load t x)
    {b off : Nat} (hx : a.eval x = .pointer (some ⟨b, off, none⟩)) {s : List UInt8} {T : TypeId} {fr : Nat × Nat} (hi : L[i]? = some (.blk b (.cells (enc s).toArray T fr)))
    {d : TypeDesc} (hu : P.underlying t = some d) (hd : d.isRow = true) (hn : (P.info? t).map (·.size) = some s.length) (hk : off = 0) :
    (execOp a.eval o).run P w = .ok (.value (.agg (enc s).toArray)) w := by
  subst hk
  exact rp_loadN H i ho hx hi hu hd hn (by simp) (by simp [List.take_of_length_le])

variable {ops : Array Oper} {rest : List Oper} {Q : Exit → Act → World → Prop}
theorem wl_store1e (H : Own w0 S R L w) (i : Nat) {t : TypeId} {x y : Operand} (ho : o.op = .store t x y) (hw : Region.wanted o (yielded ops a.tmps) = true)
    {b off : Nat} (hx : a.eval x = .pointer (some ⟨b, off, none⟩)) {s : List UInt8} {T : TypeId} (hi : L[i]? = some (.blk b (.cells (enc s).toArray T (0, 0))))
    (v : UInt8) (hy : a.eval y = bv v) (hn : (P.info? t).map (·.size) = some 1) (k : Nat) (hk : off = k) (hoff : k < s.length)
    (h : ∀ w', Own w0 S R (L.set i (.blk b (.cells (enc (s.set k v)).toArray T (0, 0)))) w' → wpList P ops Q rest (a.put o.dst undef) w') : wpList P ops Q (o :: rest) a w := by
  subst hk
  refine wl_store1 H i ho hw hx hi hy rfl hn (by simpa using hoff) ?_
  simpa [enc_set] using h
theorem wl_storeNe (H : Own w0 S R L w) (i : Nat) {t : TypeId} {x y : Operand} (ho : o.op = .store t x y) (hw : Region.wanted o (yielded ops a.tmps) = true)
    {b off : Nat} (hx : a.eval x = .pointer (some ⟨b, off, none⟩)) {s : List UInt8} {T : TypeId} (hi : L[i]? = some (.blk b (.cells (enc s).toArray T (0, 0))))
    (v : List UInt8) (hy : a.eval y = .agg (enc v).toArray) (hn : (P.info? t).map (·.size) = some v.length) (k : Nat) (hk : off = k) (hoff : k + v.length ≤ s.length)
    (h : ∀ w', Own w0 S R (L.set i (.blk b (.cells (enc (s.take k ++ v ++ s.drop (k + v.length))).toArray T (0, 0)))) w' → wpList P ops Q rest (a.put o.dst undef) w') : wpList P ops Q (o :: rest) a w := by
  subst hk
  refine wl_storeN H i ho hw hx hi hy (fun u hu => enc_one u (by simpa using hu)) (by simpa using hn) (by simpa using hoff) ?_
  simpa [enc_take, enc_drop, enc_append] using h
end
theorem LN {α : Type} : (∀ (l : List α) (i : Nat) (a : α), (l.set i a).length = l.length) ∧ (∀ (l m : List α), (l ++ m).length = l.length + m.length) ∧ (∀ (n : Nat) (l : List α), (l.take n).length = min n l.length) ∧ (∀ (n : Nat) (l : List α), (l.drop n).length = l.length - n) ∧ (∀ (n : Nat) (a : α), (List.replicate n a).length = n) := by simp
section
variable {P : Program} {o : Oper} {a : Act} {w w0 : World} {S : List Nat} {R : List (World → Prop)} {L : List Res}
theorem rp_loadWA (H : Own w0 S R L w) (i : Nat) {t : TypeId} {x : Operand} (ho : o.op = .load t x)
    {b off : Nat} (hx : a.eval x = .pointer (some ⟨b, off, none⟩)) {s : List UInt8} {T : TypeId} {fr : Nat × Nat} (hi : L[i]? = some (.blk b (.cells (enc s).toArray T fr)))
    {d : TypeDesc} (hu : P.underlying t = some d) (hd : d.isRow = true) {n : Nat} (hn : (P.info? t).map (·.size) = some n) (hk : off = 0) (hl : n = s.length := by first | omega | simp [-List.reduceReplicate] <;> omega | simp [*, -List.reduceReplicate] <;> omega) :
    (execOp a.eval o).run P w = .ok (.value (.agg (enc s).toArray)) w := rp_loadWe H i ho hx hi hu hd (hl ▸ hn) hk
theorem rp_loadNA (H : Own w0 S R L w) (i : Nat) {t : TypeId} {x : Operand} (ho : o.op = .load t x)
    {b off : Nat} (hx : a.eval x = .pointer (some ⟨b, off, none⟩)) {s : List UInt8} {T : TypeId} {fr : Nat × Nat} (hi : L[i]? = some (.blk b (.cells (enc s).toArray T fr)))
    {d : TypeDesc} (hu : P.underlying t = some d) (hd : d.isRow = true) {n : Nat} (hn : (P.info? t).map (·.size) = some n) (k : Nat) (hk : off = k := by omega) (hl : k + n ≤ s.length := by first | omega | simp [-List.reduceReplicate] <;> omega | simp [*, -List.reduceReplicate] <;> omega) :
    (execOp a.eval o).run P w = .ok (.value (.agg (enc ((s.drop k).take n)).toArray)) w := rp_loadNe H i ho hx hi hu hd hn k hk hl
theorem rp_load1A (H : Own w0 S R L w) (i : Nat) {t : TypeId} {x : Operand} (ho : o.op = .load t x)
    {b off : Nat} (hx : a.eval x = .pointer (some ⟨b, off, none⟩)) {s : List UInt8} {T : TypeId} {fr : Nat × Nat} (hi : L[i]? = some (.blk b (.cells (enc s).toArray T fr)))
    {d : TypeDesc} (hu : P.underlying t = some d) (hd : oneCellType d = true) (k : Nat) (hk : off = k) (hl : k < s.length := by first | omega | simp [-List.reduceReplicate] <;> omega | simp [*, -List.reduceReplicate] <;> omega) : (execOp a.eval o).run P w = .ok (.value (bv (s.getD k 0))) w := rp_load1e H i ho hx hi hu hd k hk hl
variable {ops : Array Oper} {rest : List Oper} {Q : Exit → Act → World → Prop}
theorem wl_storeNA (H : Own w0 S R L w) (i : Nat) {t : TypeId} {x y : Operand} (ho : o.op = .store t x y) (hw : Region.wanted o (yielded ops a.tmps) = true)
    {b off : Nat} (hx : a.eval x = .pointer (some ⟨b, off, none⟩)) {s : List UInt8} {T : TypeId} (hi : L[i]? = some (.blk b (.cells (enc s).toArray T (0, 0))))
    (v : List UInt8) (hy : a.eval y = .agg (enc v).toArray) {n : Nat} (hn : (P.info? t).map (·.size) = some n) (k : Nat) (hk : off = k)
    (h : ∀ w', Own w0 S R (L.set i (.blk b (.cells (enc (s.take k ++ v ++ s.drop (k + v.length))).toArray T (0, 0)))) w' → wpList P ops Q rest (a.put o.dst undef) w')
    (hl : n = v.length := by first | omega | simp [-List.reduceReplicate] <;> omega | simp [*, -List.reduceReplicate] <;> omega) (hoff : k + v.length ≤ s.length := by first | omega | simp [-List.reduceReplicate] <;> omega | simp [*, -List.reduceReplicate] <;> omega) : wpList P ops Q (o :: rest) a w := wl_storeNe H i ho hw hx hi v hy (hl ▸ hn) k hk hoff h
end
end Go.Proofs.YtimonjemjhecoaaGreatDoor
