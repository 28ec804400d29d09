/- Equality of structures and arrays whose leaves are bytes, ints, booleans and strings: it is equality of the cells. No program in sight. -/
import Derived.Test.YtimonjemjhecoaaGreatDoorSxMore
namespace Go.Proofs.YtimonjemjhecoaaGreatDoor
open Go.RowKit
open Go

inductive LK where
  | bool
  | int (k : IntKind)
  | str
  deriving DecidableEq

def LK.good : LK → Value → Prop
  | .bool, .bool _ => True
  | .int k, .int k' n => k' = k ∧ (Lit.int k n).wf = true
  | .str, .string s => s.size ≤ maxLen
  | _, _ => False

def litOf : Value → Lit
  | .bool b => .bool b
  | .int k n => .int k n
  | .string s => .string s.data.toList
  | _ => .bool false

def Fits : List LK → List Value → Prop
  | [], [] => True
  | k :: ks, v :: vs => k.good v ∧ Fits ks vs
  | _, _ => False

theorem Fits.length : ∀ {ks : List LK} {vs : List Value}, Fits ks vs → vs.length = ks.length
  | [], [], _ => rfl
  | _ :: _, _ :: _, h => by simp [Fits.length h.2]
  | [], _ :: _, h => h.elim
  | _ :: _, [], h => h.elim

theorem Fits.split : ∀ {ks ls : List LK} {vs : List Value}, Fits (ks ++ ls) vs → Fits ks (vs.take ks.length) ∧ Fits ls (vs.drop ks.length)
  | [], _, _, h => ⟨trivial, by simpa using h⟩
  | k :: ks, ls, v :: vs, h => by
    have := Fits.split (ks := ks) (ls := ls) (vs := vs) h.2
    exact ⟨⟨h.1, by simpa using this.1⟩, by simpa using this.2⟩
  | _ :: _, _, [], h => h.elim

theorem litOf_inj : ∀ {ks : List LK} {vs us : List Value}, Fits ks vs → Fits ks us → (vs.map litOf = us.map litOf ↔ vs = us)
  | [], [], [], _, _ => by simp
  | k :: ks, v :: vs, u :: us, h, g => by
    simp only [List.map_cons, List.cons.injEq, litOf_inj h.2 g.2]
    refine and_congr ?_ Iff.rfl
    have h1 := h.1
    have g1 := g.1
    cases k <;> cases v <;> simp only [LK.good] at h1 <;> cases u <;> simp only [LK.good] at g1 <;> simp only [litOf]
    · simp
    · simp [h1.1, g1.1]
    · rename_i a b
      obtain ⟨⟨a⟩⟩ := a
      obtain ⟨⟨b⟩⟩ := b
      simp
  | [], [], _ :: _, _, g => g.elim
  | [], _ :: _, _, h, _ => h.elim
  | _ :: _, [], _, h, _ => h.elim
  | _ :: _, _ :: _, [], _, g => g.elim

section
variable (P : Program)
def leafsF (rec : TypeId → Option (List LK)) : List Field → Nat → Nat → Option (List LK)
  | [], off, n => if off = n then some [] else none
  | f :: fs, off, n => match rec f.type, leafsF rec fs (off + P.cellsOf f.type) n with
    | some l, some r => if f.offset = off ∧ l.length = P.cellsOf f.type then some (l ++ r) else none
    | _, _ => none
def leafs : Nat → TypeId → Option (List LK)
  | 0, _ => none
  | d + 1, t => match P.underlying t with
    | some .bool => some [.bool]
    | some (.int q) => some [.int q]
    | some .string => some [.str]
    | some (.array n e) => match leafs d e with
      | some l => if l.length = P.cellsOf e ∧ P.cellsOf t = n * P.cellsOf e then some (List.replicate n l).flatten else none
      | none => none
    | some (.struct fs) => if fs.all (·.name != "_") = true then leafsF P (leafs d) fs.toList 0 (P.cellsOf t) else none
    | _ => none
variable {P}

theorem array_leafs {d e k : Nat} {l : List LK} (hl : l.length = k) (ih : ∀ cs, Fits l cs → P.keyLits d e cs = some (cs.map litOf)) :
    ∀ (n : Nat) (cs : List Value), Fits (List.replicate n l).flatten cs → ((List.range n).mapM fun i => P.keyLits d e ((cs.drop (i * k)).take k)).map List.flatten = some (cs.map litOf) := by
  intro n
  induction n with
  | zero =>
    intro cs h
    cases cs with
    | nil => rfl
    | cons _ _ => exact h.elim
  | succ n ihn =>
    intro cs h
    rw [List.replicate_succ, List.flatten_cons] at h
    obtain ⟨h1, h2⟩ := h.split
    rw [hl] at h1 h2
    have h3 := ihn _ h2
    have h4 := ih _ h1
    rw [List.range_succ_eq_map, List.mapM_cons]
    simp only [Nat.zero_mul, List.drop_zero, h4, List.mapM_map, Option.bind_eq_bind, Option.pure_def, Option.bind_some]
    simp only [List.drop_drop] at h3
    have h5 : ((List.range n).mapM ((fun i => P.keyLits d e ((cs.drop (i * k)).take k)) ∘ Nat.succ)) = (List.range n).mapM fun i => P.keyLits d e ((cs.drop (k + i * k)).take k) := by
      congr 1
      funext i
      simp only [Function.comp, Nat.succ_eq_add_one, Nat.add_mul, Nat.one_mul, Nat.add_comm]
    rw [h5]
    cases hq : ((List.range n).mapM fun i => P.keyLits d e ((cs.drop (k + i * k)).take k)) with
    | none => rw [hq] at h3; cases h3
    | some ls =>
      rw [hq] at h3
      simp only [Option.map_some, Option.some.injEq] at h3
      simp only [Option.bind_some, Option.map_some, List.flatten_cons, h3]
      rw [← List.map_append, List.take_append_drop]

theorem leafs_spec : ∀ (d : Nat), (∀ (t : TypeId) (ks : List LK) (cs : List Value), leafs P d t = some ks → Fits ks cs → P.keyLits d t cs = some (cs.map litOf))
  | 0, t, ks, cs, h, _ => by simp [leafs] at h
  | d + 1, t, ks, cs, h, hf => by
    have ih := leafs_spec d
    unfold leafs at h
    unfold Program.keyLits
    cases hu : P.underlying t with
    | none => simp [hu] at h
    | some k =>
      rw [hu] at h
      cases k
      case bool =>
        simp only [Option.some.injEq] at h
        subst h
        rcases cs with _ | ⟨v, _ | ⟨_, _⟩⟩
        · exact hf.elim
        · have := hf.1
          cases v <;> simp only [LK.good] at this
          rfl
        · exact hf.2.elim
      case int q =>
        simp only [Option.some.injEq] at h
        subst h
        rcases cs with _ | ⟨v, _ | ⟨_, _⟩⟩
        · exact hf.elim
        · have := hf.1
          cases v <;> simp only [LK.good] at this
          obtain ⟨rfl, h2⟩ := this
          simp [h2, litOf]
        · exact hf.2.elim
      case string =>
        simp only [Option.some.injEq] at h
        subst h
        rcases cs with _ | ⟨v, _ | ⟨_, _⟩⟩
        · exact hf.elim
        · have := hf.1
          cases v <;> simp only [LK.good] at this
          simp [this, litOf]
        · exact hf.2.elim
      case array n e =>
        simp only at h
        cases hl : leafs P d e with
        | none => simp [hl] at h
        | some l =>
          simp only [hl] at h
          split at h
          · rename_i hc
            simp only [Option.some.injEq] at h
            subst h
            have hlen : cs.length = P.cellsOf t := by
              rw [hf.length, hc.2, ← hc.1]
              simp
            simp only [hlen, if_true]
            exact array_leafs hc.1 (fun cs hcs => ih e l cs hl hcs) n cs hf
          · cases h
      case struct fs =>
        simp only at h
        split at h
        · rename_i hn
          have key : ∀ (fs : List Field) (off n : Nat) (ks : List LK) (pre : List Value) (cs : List Value), leafsF P (leafs P d) fs off n = some ks → pre.length = off → Fits ks cs →
              (fs.mapM fun f => P.keyLits d f.type (((pre ++ cs).drop f.offset).take (P.cellsOf f.type))).map List.flatten = some (cs.map litOf) ∧ off + cs.length = n := by
            intro fs
            induction fs with
            | nil =>
              intro off n ks pre cs h hp hf
              unfold leafsF at h
              split at h
              · simp only [Option.some.injEq] at h
                subst h
                cases cs with
                | nil => exact ⟨rfl, by simpa⟩
                | cons _ _ => exact hf.elim
              · cases h
            | cons f fs ihf =>
              intro off n ks pre cs h hp hf
              unfold leafsF at h
              cases h1 : leafs P d f.type with
              | none => simp [h1] at h
              | some l =>
                cases h2 : leafsF P (leafs P d) fs (off + P.cellsOf f.type) n with
                | none => simp [h1, h2] at h
                | some r =>
                  simp only [h1, h2] at h
                  split at h
                  · rename_i hc
                    simp only [Option.some.injEq] at h
                    subst h
                    obtain ⟨g1, g2⟩ := hf.split
                    have hlen := hf.length
                    rw [List.length_append] at hlen
                    obtain ⟨i1, i2⟩ := ihf _ _ r (pre ++ cs.take l.length) (cs.drop l.length) h2 (by simp; omega) g2
                    rw [List.append_assoc, List.take_append_drop] at i1
                    refine ⟨?_, ?_⟩
                    · rw [List.mapM_cons]
                      have e1 : ((pre ++ cs).drop f.offset).take (P.cellsOf f.type) = cs.take l.length := by
                        rw [hc.1, ← hp, List.drop_left, hc.2]
                      simp only [e1, ih _ _ _ h1 g1, Option.bind_eq_bind, Option.pure_def, Option.bind_some]
                      cases hq : (fs.mapM fun f => P.keyLits d f.type (((pre ++ cs).drop f.offset).take (P.cellsOf f.type))) with
                      | none => rw [hq] at i1; cases i1
                      | some ls =>
                        rw [hq] at i1
                        simp only [Option.map_some, Option.some.injEq] at i1
                        simp only [Option.bind_some, Option.map_some, List.flatten_cons, i1]
                        rw [← List.map_append, List.take_append_drop]
                    · simp at i2; omega
                  · cases h
          obtain ⟨k1, k2⟩ := key fs.toList 0 (P.cellsOf t) ks [] cs h rfl hf
          have hlen : cs.length = P.cellsOf t := by omega
          simp only [hlen, hn, and_self, if_true]
          simpa using k1
        · cases h
      all_goals simp at h

theorem good_u8 (x : UInt8) : (LK.int .u8).good (bv x) := ⟨rfl, by have := x.toNat_lt; simp [Lit.wf, IntKind.min, IntKind.max, IntKind.signed, IntKind.bits]; omega⟩
theorem good_i64 {n : Int} (h : -9223372036854775808 ≤ n ∧ n ≤ 9223372036854775807) : (LK.int .i64).good (iv n) := ⟨rfl, by simp [Lit.wf, IntKind.min, IntKind.max, IntKind.signed, IntKind.bits]; omega⟩
theorem good_bool (b : Bool) : LK.bool.good (.bool b) := trivial
theorem good_str {s : ByteArray} (h : s.size ≤ 9223372036854775807) : LK.str.good (.string s) := by simp only [LK.good, maxLen]; omega
theorem fits_enc : ∀ {n : Nat} {s : List UInt8}, s.length = n → Fits (List.replicate n (.int .u8)) (enc s)
  | 0, [], _ => trivial
  | n + 1, x :: s, h => ⟨good_u8 x, fits_enc (by simpa using h)⟩

variable {o : Oper} {a : Act} {w : World}
theorem rp_eql_leafs {T T' : TypeId} {x y : Operand} (ho : o.op = .binOp .eql T x y T') (m : Nat) (hm : m ≤ 10000) (hk : P.keyTypeAt m T = true) (hg : P.eqGuardType P.depth T = false) {ks : List LK} (hl : leafs P m T = some ks) {xs ys : List Value} (hx : a.eval x = .agg xs.toArray) (hy : a.eval y = .agg ys.toArray)
    (fx : (Value.agg xs.toArray).formed P T = true) (fy : (Value.agg ys.toArray).formed P T = true) (gx : Fits ks xs) (gy : Fits ks ys) {r : Bool} (hr : r = true ↔ xs = ys) :
    (execOp a.eval o).run P w = .ok (.value (.bool r)) w :=
  rp_eql_deep ho m m m hm hk hg hx hy fx fy (by simpa using leafs_spec m T ks xs hl gx) (by simpa using leafs_spec m T ks ys hl gy) (by rw [hr, litOf_inj gx gy])
theorem rp_neq_leafs {T T' : TypeId} {x y : Operand} (ho : o.op = .binOp .neq T x y T') (m : Nat) (hm : m ≤ 10000) (hk : P.keyTypeAt m T = true) (hg : P.eqGuardType P.depth T = false) {ks : List LK} (hl : leafs P m T = some ks) {xs ys : List Value} (hx : a.eval x = .agg xs.toArray) (hy : a.eval y = .agg ys.toArray)
    (fx : (Value.agg xs.toArray).formed P T = true) (fy : (Value.agg ys.toArray).formed P T = true) (gx : Fits ks xs) (gy : Fits ks ys) {r : Bool} (hr : r = true ↔ xs = ys) :
    (execOp a.eval o).run P w = .ok (.value (.bool (!r))) w :=
  rp_neq_deep ho m m m hm hk hg hx hy fx fy (by simpa using leafs_spec m T ks xs hl gx) (by simpa using leafs_spec m T ks ys hl gy) (by rw [hr, litOf_inj gx gy])
theorem enc_iff (s t : List UInt8) : decide (s = t) = true ↔ enc s = enc t := by
  rw [decide_eq_true_iff]
  exact ⟨fun h => by rw [h], enc_inj⟩
theorem formed_enc {T n : Nat} {d : TypeDesc} (hT : P.underlying T = some d) (hd : d.isRow = true) (hn : (P.info? T).map (·.size) = some n) {s : List UInt8} (h : s.length = n) : (Value.agg (enc s).toArray).formed P T = true := by
  obtain ⟨i, hi, hs⟩ := Option.map_eq_some_iff.1 hn
  cases d <;> simp_all [TypeDesc.isRow, Value.formed, Program.cellsOf]
end
end Go.Proofs.YtimonjemjhecoaaGreatDoor
