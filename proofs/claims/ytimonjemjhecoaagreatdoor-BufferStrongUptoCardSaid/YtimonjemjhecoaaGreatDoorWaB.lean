/- Walks, printed by a program of this repository (wip/tool). -/
import Derived.Test.YtimonjemjhecoaaGreatDoorBSn
import Derived.Test.YtimonjemjhecoaaGreatDoorLB1
import Derived.Test.YtimonjemjhecoaaGreatDoorBV0
import Derived.Test.YtimonjemjhecoaaGreatDoorBu3
namespace Go.Proofs.YtimonjemjhecoaaGreatDoor
open Go.RowKit
open Go
attribute [local irreducible] wpList wpQuiet wpX Code.wp
set_option maxHeartbeats 1000000
set_option maxRecDepth 100000
set_option linter.unusedSimpArgs false
set_option linter.unusedVariables false


/-- T is S after the drain of the store at a of thread t. -/
structure Drained (S T : List UInt8) (t a : Nat) : Prop where
  lt : a < (S.getD (138 + t) 0).toNat
  low : ∀ j, j < 36 → T.getD j 0 = S.getD j 0
  mem : ∀ l, l < 6 → T.getD (36 + l) 0 = if l = (stL S t a).toNat then stV S t a else S.getD (36 + l) 0
  own : (T.getD (138 + t) 0).toNat + 1 = (S.getD (138 + t) 0).toNat
  many : ∀ u, u < 4 → u ≠ t → T.getD (138 + u) 0 = S.getD (138 + u) 0
  buf : ∀ u, u < 4 → u ≠ t → ∀ i, i < 12 → stL T u i = stL S u i ∧ stV T u i = stV S u i
  lo : ∀ i, i < a → stL T t i = stL S t i ∧ stV T t i = stV S t i
  hi : ∀ i, a ≤ i → i + 1 < (S.getD (138 + t) 0).toNat → stL T t i = stL S t (i + 1) ∧ stV T t i = stV S t (i + 1)
/-- T is S after a store of thread t, kept at a. -/
structure Stored (S T : List UInt8) (t a : Nat) (x y : UInt8) : Prop where
  le : a ≤ (S.getD (138 + t) 0).toNat
  low : ∀ j, j < 42 → j ≠ t * 9 → T.getD j 0 = S.getD j 0
  pc : (T.getD (t * 9) 0).toNat = (S.getD (t * 9) 0).toNat + 1
  own : (T.getD (138 + t) 0).toNat = (S.getD (138 + t) 0).toNat + 1
  many : ∀ u, u < 4 → u ≠ t → T.getD (138 + u) 0 = S.getD (138 + u) 0
  buf : ∀ u, u < 4 → u ≠ t → ∀ i, i < 12 → stL T u i = stL S u i ∧ stV T u i = stV S u i
  lo : ∀ i, i < a → stL T t i = stL S t i ∧ stV T t i = stV S t i
  put : stL T t a = x ∧ stV T t a = y
  hi : ∀ i, a ≤ i → i < (S.getD (138 + t) 0).toNat → stL T t (i + 1) = stL S t i ∧ stV T t (i + 1) = stV S t i
section
variable {p : Prog} {mach : UInt8} {S T : List UInt8}
theorem drained (hv : BValid p mach S) {t a : Nat} (ht : t < 4) (ha : a < (S.getD (138 + t) 0).toNat) : Drained S (drainAt S t (S.getD (138 + t) 0).toNat a) t a := by
  have hm := (hv.most ht).1
  have hl := hv.loc t ht a (by omega) ha
  have hL := hv.ok.locs
  have hS := hv.len
  have g := fun j => drainAt_getD (j := j) hS ht hm ha (by omega)
  have hsub : (S.getD (138 + t) 0 - 1).toNat = (S.getD (138 + t) 0).toNat - 1 := by rcases u8_sub1 (S.getD (138 + t) 0) with h | h <;> omega
  generalize hT : drainAt S t (S.getD (138 + t) 0).toNat a = T at *
  refine ⟨ha, fun j hj => ?_, fun l hl => ?_, ?_, fun u hu hne => ?_, fun u hu hne i hi => ?_, fun i hi => ?_, fun i h1 h2 => ?_⟩
  · rw [g, if_neg (by omega), if_neg (by omega), if_neg (by omega), if_neg (by omega)]
  · rw [g, if_neg (by omega), if_neg (by omega), if_neg (by omega)]
    by_cases h : l = (stL S t a).toNat
    · rw [if_pos h, if_pos (by omega)]
    · rw [if_neg h, if_neg (by omega)]
  · rw [g, if_pos rfl, hsub]; omega
  · rw [g, if_neg (by omega), if_neg (by omega), if_neg (by omega), if_neg (by omega)]
  · unfold stL stV
    rw [g, g, if_neg (by omega), if_neg (by omega), if_neg (by omega), if_neg (by omega), if_neg (by omega), if_neg (by omega), if_neg (by omega), if_neg (by omega)]
    exact ⟨rfl, rfl⟩
  · unfold stL stV
    rw [g, g, if_neg (by omega), if_neg (by omega), if_neg (by omega), if_neg (by omega), if_neg (by omega), if_neg (by omega), if_neg (by omega), if_neg (by omega)]
    exact ⟨rfl, rfl⟩
  · unfold stL stV
    rw [g, g, if_neg (by omega), if_neg (by omega), if_pos (by omega), if_neg (by omega), if_neg (by omega), if_pos (by omega)]
    exact ⟨by congr 1; omega, by congr 1; omega⟩
theorem stored (hv : BValid p mach S) {t a : Nat} {x y : UInt8} (ht : t < p.threads.l.length) (hpc : (S.getD (t * 9) 0).toNat < (p.threads.l.getD t default).l.length)
    (hal : a ≤ (S.getD (138 + t) 0).toNat) : Stored S ((keepAt S t [x, y] (S.getD (138 + t) 0).toNat a).set (t * 9) ((keepAt S t [x, y] (S.getD (138 + t) 0).toNat a).getD (t * 9) 0 + 1)) t a x y := by
  have h4 := hv.ok.threads
  have hlen := len_le hv.ok t
  have hmy := hv.many t (by omega)
  have hS := hv.len
  have ht4 : t < 4 := by omega
  have hm12 : (S.getD (138 + t) 0).toNat < 12 := by omega
  have hx : [x, y].length = 2 := rfl
  have g0 := fun j => keepAt_getD (j := j) hS hx ht4 hm12 hal
  have hl0 := keepAt_len hS hx ht4 hm12 hal
  generalize hU : keepAt S t [x, y] (S.getD (138 + t) 0).toNat a = U at *
  have g : ∀ j, (U.set (t * 9) (U.getD (t * 9) 0 + 1)).getD j 0 = if j = t * 9 then U.getD (t * 9) 0 + 1 else U.getD j 0 := fun j => by rw [set_getD _ _ _ _ (by omega)]
  generalize U.set (t * 9) (U.getD (t * 9) 0 + 1) = T at *
  have hadd : (S.getD (138 + t) 0 + 1).toNat = (S.getD (138 + t) 0).toNat + 1 := by rw [UInt8.toNat_add]; have : (1 : UInt8).toNat = 1 := rfl; omega
  have hpc1 : (S.getD (t * 9) 0 + 1).toNat = (S.getD (t * 9) 0).toNat + 1 := by rw [UInt8.toNat_add]; have : (1 : UInt8).toNat = 1 := rfl; omega
  refine ⟨hal, fun j hj hne => ?_, ?_, ?_, fun u hu hne => ?_, fun u hu hne i hi => ?_, fun i hi => ?_, ?_, fun i h1 h2 => ?_⟩
  · rw [g, if_neg hne, g0, if_neg (by omega), if_neg (by omega), if_neg (by omega)]
  · rw [g, if_pos rfl, g0, if_neg (by omega), if_neg (by omega), if_neg (by omega), hpc1]
  · rw [g, if_neg (by omega), g0, if_pos rfl, hadd]
  · rw [g, if_neg (by omega), g0, if_neg (by omega), if_neg (by omega), if_neg (by omega)]
  · unfold stL stV
    rw [g, if_neg (by omega), g0, if_neg (by omega), if_neg (by omega), if_neg (by omega), g, if_neg (by omega), g0, if_neg (by omega), if_neg (by omega), if_neg (by omega)]
    exact ⟨rfl, rfl⟩
  · unfold stL stV
    rw [g, if_neg (by omega), g0, if_neg (by omega), if_neg (by omega), if_neg (by omega), g, if_neg (by omega), g0, if_neg (by omega), if_neg (by omega), if_neg (by omega)]
    exact ⟨rfl, rfl⟩
  · unfold stL stV
    rw [g, if_neg (by omega), g0, if_neg (by omega), if_pos (by omega), g, if_neg (by omega), g0, if_neg (by omega), if_pos (by omega), show 42 + t * 24 + a * 2 - (42 + t * 24 + a * 2) = 0 by omega, show 42 + t * 24 + a * 2 + 1 - (42 + t * 24 + a * 2) = 1 by omega]
    exact ⟨rfl, rfl⟩
  · unfold stL stV
    rw [g, if_neg (by omega), g0, if_neg (by omega), if_neg (by omega), if_pos (by omega), g, if_neg (by omega), g0, if_neg (by omega), if_neg (by omega), if_pos (by omega)]
    exact ⟨by congr 1; omega, by congr 1; omega⟩
/-- The instruction that thread t executes next. -/
def insB (p : Prog) (S : List UInt8) (t : Nat) : Ins := insAt p t (S.getD (t * 9) 0).toNat
/-- A drain. -/
theorem does_drain (hv : BValid p mach S) {x : Pass} (hx : x ∈ passesF p mach S) (hd : x.drain = true) : ∃ a, Drained S (doesF p mach S x) x.thread.toNat a ∧
    (mach = 3 → stL S x.thread.toNat a = x.loc ∧ ∀ k, k < a → stL S x.thread.toNat k ≠ x.loc) ∧ (mach ≠ 3 → a = 0) := by
  have hpf := pass_facts hv hx
  have h := hpf.2.2.2 hd
  obtain ⟨a, h1, h2, h3, h4⟩ := drain_eq ⟨h.1, (hv.most hpf.2.1).1⟩ h.2
  refine ⟨a, ?_, h2, h3⟩
  unfold doesF
  rw [hd, cond_true, h4]
  exact drained hv hpf.2.1 h1
/-- A store that is buffered. -/
theorem does_store (hv : BValid p mach S) {x : Pass} (hx : x ∈ passesF p mach S) (hd : x.drain = false) (ho : (insB p S x.thread.toNat).op = 2) (hm : mach ≠ 1) :
    Stored S (doesF p mach S x) x.thread.toNat (keepPos mach S x.thread.toNat (insB p S x.thread.toNat).loc (S.getD (138 + x.thread.toNat) 0).toNat) (insB p S x.thread.toNat).loc (worth (insB p S x.thread.toNat).a ((S.drop (x.thread.toNat * 9 + 1)).take 8)) := by
  have hpf := pass_facts hv hx
  have hpc := hpf.2.2.1 hd
  have h4 := hv.ok.threads
  have hlen := len_le hv.ok x.thread.toNat
  have hmy := hv.many x.thread.toNat hpf.2.1
  unfold doesF
  rw [hd, cond_false]
  unfold insB insAt at ho ⊢
  unfold bGoesF
  rw [ho, show ((2 : UInt8) == 1) = false by rfl, show ((2 : UInt8) == 2) = true by rfl, cond_false, Bool.true_and, bne_iff_ne.2 hm, cond_true]
  unfold bGoesF_v65 bGoesF_a
  rw [keep_eq (by omega)]
  exact stored hv hpf.1 hpc (keepPos_le _ _ _ _ _)
/-- A load. -/
theorem does_load (hv : BValid p mach S) {x : Pass} (hx : x ∈ passesF p mach S) (hd : x.drain = false) (ho : (insB p S x.thread.toNat).op = 1) (j : Nat) :
    (doesF p mach S x).getD j 0 = if j = x.thread.toNat * 9 then S.getD (x.thread.toNat * 9) 0 + 1 else if j = x.thread.toNat * 9 + 1 + (insB p S x.thread.toNat).dst.toNat then seenF S (x.thread.toNat : Int) (insB p S x.thread.toNat).loc else S.getD j 0 := by
  have hpf := pass_facts hv hx
  have hpc := hpf.2.2.1 hd
  have hat := hv.ok.at hpf.1 hpc
  have hdst : ((p.threads.l.getD x.thread.toNat default).l.getD (S.getD (x.thread.toNat * 9) 0).toNat default).dst.toNat < 8 := UInt8.lt_iff_toNat_lt.1 hat.2.dst
  have hS := hv.len
  have h4 := hpf.2.1
  unfold doesF
  rw [hd, cond_false]
  unfold insB insAt at ho ⊢
  unfold bGoesF
  rw [ho, show ((1 : UInt8) == 1) = true by rfl, cond_true]
  unfold bGoesF_v38 bGoesF_a doesF_v20
  have g : ∀ (d : Nat) (v : UInt8), d < 8 → ((S.set (x.thread.toNat * 9 + 1 + d) v).set (x.thread.toNat * 9) ((S.set (x.thread.toNat * 9 + 1 + d) v).getD (x.thread.toNat * 9) 0 + 1)).getD j 0 = if j = x.thread.toNat * 9 then S.getD (x.thread.toNat * 9) 0 + 1 else if j = x.thread.toNat * 9 + 1 + d then v else S.getD j 0 := fun d v hd => by
    rw [set_getD _ _ _ _ (by rw [List.length_set]; omega), show (S.set (x.thread.toNat * 9 + 1 + d) v).getD (x.thread.toNat * 9) 0 = S.getD (x.thread.toNat * 9) 0 by rw [set_getD _ _ _ _ (by omega), if_neg (by omega)], set_getD _ _ _ _ (by omega)]
  exact g _ _ hdst
/-- Any other instruction: as in chapter 13. -/
theorem does_other (hv : BValid p mach S) {x : Pass} (hx : x ∈ passesF p mach S) (hd : x.drain = false) (ho : (insB p S x.thread.toNat).op ≠ 1) (ho2 : (insB p S x.thread.toNat).op = 2 → mach = 1) (j : Nat) :
    (doesF p mach S x).getD j 0 = if 42 ≤ j ∧ j < 142 then S.getD j 0 else (goesF p (bareOf S) x.thread.toNat).getD j 0 := by
  have hpf := pass_facts hv hx
  have hpc := hpf.2.2.1 hd
  unfold doesF
  rw [hd, cond_false]
  unfold insB insAt at ho ho2
  unfold bGoesF
  rw [beq_eq_false_iff_ne.2 ho, cond_false, show (((p.threads.l.getD x.thread.toNat default).l.getD (S.getD (x.thread.toNat * 9) 0).toNat default).op == 2 && (mach != 1)) = false by
    rw [Bool.and_eq_false_iff]
    by_cases h : ((p.threads.l.getD x.thread.toNat default).l.getD (S.getD (x.thread.toNat * 9) 0).toNat default).op = 2
    · right; rw [ho2 h]; rfl
    · left; exact beq_eq_false_iff_ne.2 h, cond_false]
  unfold doesF_v20
  rw [alone_getD hv.len, alone_move hv hpf.1 hpc]
theorem sees_mem (hv : BValid p mach S) {loc : UInt8} (hl : loc.toNat < 6) {u : Nat} (hu : u < 4) (h0 : S.getD (138 + u) 0 = 0) : seenF S (u : Int) loc = S.getD (36 + loc.toNat) 0 := by
  rw [seen_eq hu hl (hv.most hu).1, h0]
  rfl
theorem storeF_iff {t : Nat} (ht : t < p.threads.l.length) (hpc : (S.getD (t * 9) 0).toNat < (p.threads.l.getD t default).l.length) : storeF p S (t : Int) = ((insB p S t).op == 2) := by
  unfold storeF insB insAt
  rw [Int.toNat_natCast, decide_eq_true (by omega), decide_eq_true (by omega), Bool.true_and, Bool.true_and]
theorem bmove_in {x : Pass} (hv : BValid p mach S) (hx : x ∈ passesF p mach S) : bMoveF p mach S x = (doesF p mach S x, 0) := by
  rw [bMove_eq, if_pos]
  unfold bMovesF
  rw [(bvalid_iff hv.len).2 hv]
  exact hx
theorem bmoves_eq (hv : BValid p mach S) : bMovesF p mach S = passesF p mach S := by
  unfold bMovesF
  rw [(bvalid_iff hv.len).2 hv]
  rfl
end
end Go.Proofs.YtimonjemjhecoaaGreatDoor

namespace Go.Proofs.YtimonjemjhecoaaGreatDoor
open Go.RowKit
open Go
attribute [local irreducible] wpList wpQuiet wpX Code.wp
set_option maxHeartbeats 1000000
set_option maxRecDepth 100000
set_option linter.unusedSimpArgs false
set_option linter.unusedVariables false


/-- From one state by these threads' moves to another. -/
inductive Run (p : Prog) : List UInt8 → List Int → List UInt8 → Prop where
  | nil (S : List UInt8) : Run p S [] S
  | cons {S : List UInt8} {t : Int} {l : List Int} {S' : List UInt8} (h : mayF p S t = true) (r : Run p (goesF p S t.toNat) l S') : Run p S (t :: l) S'
theorem Run.valid {p : Prog} {S S' : List UInt8} {l : List Int} (r : Run p S l S') : Valid p S → Valid p S' := by
  induction r with
  | nil => exact id
  | cons h _ ih => exact fun hv => ih (goes_valid hv (mayF_nat.1 h).2)
theorem Run.len {p : Prog} {S S' : List UInt8} {l : List Int} (r : Run p S l S') : Valid p S → l.length + todo p S' ≤ todo p S := by
  induction r with
  | nil => intro _; simp
  | cons h _ ih =>
    intro hv
    have h1 := (mayF_nat.1 h).2
    have := ih (goes_valid hv h1)
    have := goes_todo hv.ok hv.len h1
    simp only [List.length_cons]
    omega
theorem play_run {p : Prog} {picks : List UInt8} : ∀ (n : Nat) (S : List UInt8) (o : List Int), Valid p S → todo p S < n →
    ∃ l S', Run p S l S' ∧ ableF p S' = [] ∧ loopF (playF_a p picks) n (ableF p S, o, S) = (finalF S', o ++ l, 0)
  | 0, S, o, _, h => by omega
  | n + 1, S, o, hv, h => by
    have key : ∀ k, k < (ableF p S).length → ∀ o', ∃ l S', Run p (goesF p S ((ableF p S).getD k default).toNat) l S' ∧ ableF p S' = [] ∧ loopF (playF_a p picks) n (ableF p (goesF p S ((ableF p S).getD k default).toNat), o', goesF p S ((ableF p S).getD k default).toNat) = (finalF S', o' ++ l, 0) := fun k hk o' => by
      have hm := able_may (p := p) (S := S) rfl hk
      have h1 := able_todo hv.ok hv.len hm
      exact play_run n _ o' (goes_valid hv (mayF_nat.1 hm).2) (by omega)
    show ∃ l S', Run p S l S' ∧ ableF p S' = [] ∧ playF_a p picks (loopF (playF_a p picks) n) (ableF p S, o, S) = _
    simp only [playF_a]
    cases hc : decide ((0 : Int) < ((ableF p S).length : Nat)) <;> simp only [cond_true, cond_false]
    · have hc := of_decide_eq_false hc
      exact ⟨[], S, .nil S, List.length_eq_zero_iff.1 (by omega), by simp⟩
    · have hc := of_decide_eq_true hc
      have step : ∀ k, k < (ableF p S).length → ∃ l S', Run p S l S' ∧ ableF p S' = [] ∧ loopF (playF_a p picks) n (ableF p (goesF p S ((ableF p S).getD k default).toNat), o ++ [(ableF p S).getD k default], goesF p S ((ableF p S).getD k default).toNat) = (finalF S', o ++ l, 0) := fun k hk => by
        obtain ⟨l, S', r, h1, h2⟩ := key k hk (o ++ [(ableF p S).getD k default])
        exact ⟨_, S', .cons (able_may rfl hk) r, h1, by rw [h2]; simp⟩
      cases decide (((o.length : Nat) : Int) < ((picks.length : Nat) : Int)) <;> simp only [cond_true, cond_false]
      · exact step _ (by omega)
      · exact step _ (Nat.mod_lt _ (by omega))
theorem play_eq {p : Prog} (h : rightF p = 0) (picks : List UInt8) : ∃ l S', Run p (startF p).1 l S' ∧ ableF p S' = [] ∧ playF p picks = (finalF S', l, 0) := by
  obtain ⟨h0, hv⟩ := start_valid h
  obtain ⟨l, S', r, h1, h2⟩ := play_run (picks := picks) 49 (startF p).1 [] hv (by have := todo_le hv.ok (startF p).1; omega)
  refine ⟨l, S', r, h1, ?_⟩
  unfold playF
  rw [h0]
  simp only [bne_self_eq_false, cond_false]
  rw [h2, List.nil_append]
theorem play_no {p : Prog} (h : rightF p ≠ 0) (picks : List UInt8) : playF p picks = (List.replicate 38 0, [], 2) := by
  unfold playF
  rw [start_no h]
  rfl
theorem play_order {p : Prog} (h : rightF p = 0) (picks : List UInt8) : (playF p picks).2.1.length ≤ 48 := by
  obtain ⟨l, S', r, _, h2⟩ := play_eq h picks
  obtain ⟨_, hv⟩ := start_valid h
  have h3 := r.len hv
  have h4 := todo_le hv.ok (startF p).1
  rw [h2]
  show l.length ≤ 48
  omega
/-! ### the same run by its picks -/
end Go.Proofs.YtimonjemjhecoaaGreatDoor

namespace Go.Proofs.YtimonjemjhecoaaGreatDoor
open Go.RowKit
open Go
attribute [local irreducible] wpList wpQuiet wpX Code.wp
set_option maxHeartbeats 1000000
set_option maxRecDepth 100000
set_option linter.unusedSimpArgs false
set_option linter.unusedVariables false


/-- From one state by these moves to another. -/
inductive BRun (p : Prog) (mach : UInt8) : List UInt8 → List Pass → List UInt8 → Prop where
  | nil (S : List UInt8) : BRun p mach S [] S
  | cons {S : List UInt8} {x : Pass} {l : List Pass} {T : List UInt8} (h : x ∈ passesF p mach S) (r : BRun p mach (doesF p mach S x) l T) : BRun p mach S (x :: l) T
theorem BRun.valid {p : Prog} {mach : UInt8} {S T : List UInt8} {l : List Pass} (r : BRun p mach S l T) : BValid p mach S → BValid p mach T := by
  induction r with
  | nil => exact id
  | cons h _ ih => exact fun hv => ih (does_next hv h).1
theorem BRun.len {p : Prog} {mach : UInt8} {S T : List UInt8} {l : List Pass} (r : BRun p mach S l T) : BValid p mach S → l.length + bmeas p T ≤ bmeas p S := by
  induction r with
  | nil => intro _; simp
  | cons h _ ih =>
    intro hv
    have h1 := does_next hv h
    have h2 := ih h1.1
    have h3 := h1.2
    simp only [List.length_cons]
    omega
theorem bstart_right {p : Prog} (h : (startF p).2 = 0) : rightF p = 0 := by
  by_cases hr : rightF p = 0
  · exact hr
  · rw [start_no hr] at h; cases h
theorem Run.bounds {p : Prog} {S S' : List UInt8} {l : List Int} (r : Run p S l S') : ∀ t, t ∈ l → 0 ≤ t ∧ t < (p.threads.l.length : Int) := by
  induction r with
  | nil => intro t h; cases h
  | cons h _ ih =>
    intro t ht
    rcases List.mem_cons.1 ht with rfl | ht
    · have h1 := mayF_nat.1 h
      have h2 := (mayN_iff.1 h1.2).1
      omega
    · exact ih t ht
theorem play_bounds {p : Prog} (h : rightF p = 0) (picks : List UInt8) (k : Nat) : 0 ≤ (playF p picks).2.1.getD k default ∧ (playF p picks).2.1.getD k default < (p.threads.l.length : Int) := by
  obtain ⟨l, S', r, _, h2⟩ := play_eq h picks
  rw [h2]
  show 0 ≤ l.getD k default ∧ l.getD k default < (p.threads.l.length : Int)
  rcases Nat.lt_or_ge k l.length with hk | hk
  · exact r.bounds _ (by rw [List.getD_eq_getElem?_getD, List.getElem?_eq_getElem hk]; exact List.getElem_mem hk)
  · rw [List.getD_eq_getElem?_getD, List.getElem?_eq_none hk]
    have := (right_ok h).threads.1
    exact ⟨by decide, by show (0 : Int) < _; omega⟩
theorem machine_kind (mach : UInt8) : machineF mach = 1 ∨ machineF mach = 2 ∨ machineF mach = 3 := by
  have h1 : (1 : UInt8).toNat = 1 := rfl
  have h2 : (2 : UInt8).toNat = 2 := rfl
  have h3 : (3 : UInt8).toNat = 3 := rfl
  have hm : (machineF mach).toNat = 1 + mach.toNat % 3 := by
    unfold machineF
    rw [UInt8.toNat_add, UInt8.toNat_mod, h1, h3]
    omega
  simp only [← UInt8.toNat_inj]
  omega

end Go.Proofs.YtimonjemjhecoaaGreatDoor

namespace Go.Proofs.YtimonjemjhecoaaGreatDoor
open Go.RowKit
open Go
attribute [local irreducible] wpList wpQuiet wpX Code.wp
set_option maxHeartbeats 1000000
set_option maxRecDepth 100000
set_option linter.unusedSimpArgs false
set_option linter.unusedVariables false


section
variable {p : Prog} {mach : UInt8} {S : List UInt8}
/-- When a thread may go. -/
theorem bmay_iff {d : Nat} : bMayF p mach S d = true ↔ (S.getD (d * 9) 0).toNat < (p.threads.l.getD d default).l.length ∧
    ((insB p S d).op = 4 ∨ (insB p S d).op = 5 ∨ (insB p S d).op = 6 → S.getD (138 + d) 0 = 0) ∧ ((insB p S d).op = 7 → S.getD (138 + d) 0 = 0 ∨ (insB p S d).mode = 4 ∨ ((insB p S d).mode = 5 ∧ mach ≠ 3)) := by
  unfold bMayF bMayF_a
  change (bif decide ((((p.threads.l.getD d default).l.length : Nat) : Int) ≤ ((S.getD (d * 9) 0).toNat : Int)) then false else bif ((insB p S d).op == 4) then (bif ((insB p S d).op == 4) then (S.getD (138 + d) 0 == 0) else _) else bif ((insB p S d).op == 5) then (bif ((insB p S d).op == 5) then (S.getD (138 + d) 0 == 0) else _) else (bif ((insB p S d).op == 6) then (S.getD (138 + d) 0 == 0) else bif ((insB p S d).op == 7) then ((S.getD (138 + d) 0 == 0 || (insB p S d).mode == 4) || ((insB p S d).mode == 5 && (mach != 3))) else true)) = true ↔ _
  generalize insB p S d = i
  generalize S.getD (138 + d) 0 = z
  generalize (S.getD (d * 9) 0).toNat = a
  generalize (p.threads.l.getD d default).l.length = n
  rcases Nat.lt_or_ge a n with hpc | hpc
  · rw [decide_eq_false (by omega), cond_false]
    by_cases h4 : i.op = 4
    · simp [h4, hpc]
    · by_cases h5 : i.op = 5
      · simp [h5, hpc]
      · by_cases h6 : i.op = 6
        · simp [h6, hpc]
        · by_cases h7 : i.op = 7
          · simp [h7, hpc, or_assoc]
          · simp [h4, h5, h6, h7, hpc]
  · rw [decide_eq_true (by omega), cond_true]
    exact ⟨fun h => (by cases h), fun h => absurd h.1 (by omega)⟩
theorem over_end (hv : BValid p mach S) (h : passesF p mach S = []) : bOverF p mach S = true := by
  unfold bOverF
  rw [(bvalid_iff hv.len).2 hv, h]
  rfl
end
end Go.Proofs.YtimonjemjhecoaaGreatDoor
