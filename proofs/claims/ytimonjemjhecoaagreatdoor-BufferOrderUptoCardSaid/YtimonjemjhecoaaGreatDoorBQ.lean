/- Walks, printed by a program of this repository (wip/tool). -/
import Derived.Test.YtimonjemjhecoaaGreatDoorBSn
import Derived.Test.YtimonjemjhecoaaGreatDoorLB1
import Derived.Test.YtimonjemjhecoaaGreatDoorBV0
import Derived.Test.YtimonjemjhecoaaGreatDoorBu3
namespace Go.Proofs.YtimonjemjhecoaaGreatDoor
open Go.RowKit
open Go
attribute [local irreducible] wpList wpQuiet wpX Code.wp
set_option maxHeartbeats 1000000
set_option maxRecDepth 100000
set_option linter.unusedSimpArgs false
set_option linter.unusedVariables false


structure Drained (S T : List UInt8) (t a : Nat) : Prop where
  lt : a < (S.getD (138 + t) 0).toNat
  low : ∀ j, j < 36 → T.getD j 0 = S.getD j 0
  mem : ∀ l, l < 6 → T.getD (36 + l) 0 = if l = (stL S t a).toNat then stV S t a else S.getD (36 + l) 0
  own : (T.getD (138 + t) 0).toNat + 1 = (S.getD (138 + t) 0).toNat
  many : ∀ u, u < 4 → u ≠ t → T.getD (138 + u) 0 = S.getD (138 + u) 0
  buf : ∀ u, u < 4 → u ≠ t → ∀ i, i < 12 → stL T u i = stL S u i ∧ stV T u i = stV S u i
  lo : ∀ i, i < a → stL T t i = stL S t i ∧ stV T t i = stV S t i
  hi : ∀ i, a ≤ i → i + 1 < (S.getD (138 + t) 0).toNat → stL T t i = stL S t (i + 1) ∧ stV T t i = stV S t (i + 1)
structure Stored (S T : List UInt8) (t a : Nat) (x y : UInt8) : Prop where
  le : a ≤ (S.getD (138 + t) 0).toNat
  low : ∀ j, j < 42 → j ≠ t * 9 → T.getD j 0 = S.getD j 0
  pc : (T.getD (t * 9) 0).toNat = (S.getD (t * 9) 0).toNat + 1
  own : (T.getD (138 + t) 0).toNat = (S.getD (138 + t) 0).toNat + 1
  many : ∀ u, u < 4 → u ≠ t → T.getD (138 + u) 0 = S.getD (138 + u) 0
  buf : ∀ u, u < 4 → u ≠ t → ∀ i, i < 12 → stL T u i = stL S u i ∧ stV T u i = stV S u i
  lo : ∀ i, i < a → stL T t i = stL S t i ∧ stV T t i = stV S t i
  put : stL T t a = x ∧ stV T t a = y
  hi : ∀ i, a ≤ i → i < (S.getD (138 + t) 0).toNat → stL T t (i + 1) = stL S t i ∧ stV T t (i + 1) = stV S t i
section
variable {p : Prog} {mach : UInt8} {S T : List UInt8}
theorem drained (hv : BValid p mach S) {t a : Nat} (ht : t < 4) (ha : a < (S.getD (138 + t) 0).toNat) : Drained S (drainAt S t (S.getD (138 + t) 0).toNat a) t a := by
  have hm := (hv.most ht).1
  have hl := hv.loc t ht a (by omega) ha
  have hL := hv.ok.locs
  have hS := hv.len
  have g := fun j => drainAt_getD (j := j) hS ht hm ha (by omega)
  have hsub : (S.getD (138 + t) 0 - 1).toNat = (S.getD (138 + t) 0).toNat - 1 := by rcases u8_sub1 (S.getD (138 + t) 0) with h | h <;> omega
  generalize hT : drainAt S t (S.getD (138 + t) 0).toNat a = T at *
  refine ⟨ha, fun j hj => ?_, fun l hl => ?_, ?_, fun u hu hne => ?_, fun u hu hne i hi => ?_, fun i hi => ?_, fun i h1 h2 => ?_⟩
  · rw [g, if_neg (by omega), if_neg (by omega), if_neg (by omega), if_neg (by omega)]
  · rw [g, if_neg (by omega), if_neg (by omega), if_neg (by omega)]
    by_cases h : l = (stL S t a).toNat
    · rw [if_pos h, if_pos (by omega)]
    · rw [if_neg h, if_neg (by omega)]
  · rw [g, if_pos rfl, hsub]; omega
  · rw [g, if_neg (by omega), if_neg (by omega), if_neg (by omega), if_neg (by omega)]
  · unfold stL stV
    rw [g, g, if_neg (by omega), if_neg (by omega), if_neg (by omega), if_neg (by omega), if_neg (by omega), if_neg (by omega), if_neg (by omega), if_neg (by omega)]
    exact ⟨rfl, rfl⟩
  · unfold stL stV
    rw [g, g, if_neg (by omega), if_neg (by omega), if_neg (by omega), if_neg (by omega), if_neg (by omega), if_neg (by omega), if_neg (by omega), if_neg (by omega)]
    exact ⟨rfl, rfl⟩
  · unfold stL stV
    rw [g, g, if_neg (by omega), if_neg (by omega), if_pos (by omega), if_neg (by omega), if_neg (by omega), if_pos (by omega)]
    exact ⟨by congr 1; omega, by congr 1; omega⟩
theorem stored (hv : BValid p mach S) {t a : Nat} {x y : UInt8} (ht : t < p.threads.l.length) (hpc : (S.getD (t * 9) 0).toNat < (p.threads.l.getD t default).l.length)
    (hal : a ≤ (S.getD (138 + t) 0).toNat) : Stored S ((keepAt S t [x, y] (S.getD (138 + t) 0).toNat a).set (t * 9) ((keepAt S t [x, y] (S.getD (138 + t) 0).toNat a).getD (t * 9) 0 + 1)) t a x y := by
  have h4 := hv.ok.threads
  have hlen := len_le hv.ok t
  have hmy := hv.many t (by omega)
  have hS := hv.len
  have ht4 : t < 4 := by omega
  have hm12 : (S.getD (138 + t) 0).toNat < 12 := by omega
  have hx : [x, y].length = 2 := rfl
  have g0 := fun j => keepAt_getD (j := j) hS hx ht4 hm12 hal
  have hl0 := keepAt_len hS hx ht4 hm12 hal
  generalize hU : keepAt S t [x, y] (S.getD (138 + t) 0).toNat a = U at *
  have g : ∀ j, (U.set (t * 9) (U.getD (t * 9) 0 + 1)).getD j 0 = if j = t * 9 then U.getD (t * 9) 0 + 1 else U.getD j 0 := fun j => by rw [set_getD _ _ _ _ (by omega)]
  generalize U.set (t * 9) (U.getD (t * 9) 0 + 1) = T at *
  have hadd : (S.getD (138 + t) 0 + 1).toNat = (S.getD (138 + t) 0).toNat + 1 := by rw [UInt8.toNat_add]; have : (1 : UInt8).toNat = 1 := rfl; omega
  have hpc1 : (S.getD (t * 9) 0 + 1).toNat = (S.getD (t * 9) 0).toNat + 1 := by rw [UInt8.toNat_add]; have : (1 : UInt8).toNat = 1 := rfl; omega
  refine ⟨hal, fun j hj hne => ?_, ?_, ?_, fun u hu hne => ?_, fun u hu hne i hi => ?_, fun i hi => ?_, ?_, fun i h1 h2 => ?_⟩
  · rw [g, if_neg hne, g0, if_neg (by omega), if_neg (by omega), if_neg (by omega)]
  · rw [g, if_pos rfl, g0, if_neg (by omega), if_neg (by omega), if_neg (by omega), hpc1]
  · rw [g, if_neg (by omega), g0, if_pos rfl, hadd]
  · rw [g, if_neg (by omega), g0, if_neg (by omega), if_neg (by omega), if_neg (by omega)]
  · unfold stL stV
    rw [g, if_neg (by omega), g0, if_neg (by omega), if_neg (by omega), if_neg (by omega), g, if_neg (by omega), g0, if_neg (by omega), if_neg (by omega), if_neg (by omega)]
    exact ⟨rfl, rfl⟩
  · unfold stL stV
    rw [g, if_neg (by omega), g0, if_neg (by omega), if_neg (by omega), if_neg (by omega), g, if_neg (by omega), g0, if_neg (by omega), if_neg (by omega), if_neg (by omega)]
    exact ⟨rfl, rfl⟩
  · unfold stL stV
    rw [g, if_neg (by omega), g0, if_neg (by omega), if_pos (by omega), g, if_neg (by omega), g0, if_neg (by omega), if_pos (by omega), show 42 + t * 24 + a * 2 - (42 + t * 24 + a * 2) = 0 by omega, show 42 + t * 24 + a * 2 + 1 - (42 + t * 24 + a * 2) = 1 by omega]
    exact ⟨rfl, rfl⟩
  · unfold stL stV
    rw [g, if_neg (by omega), g0, if_neg (by omega), if_neg (by omega), if_pos (by omega), g, if_neg (by omega), g0, if_neg (by omega), if_neg (by omega), if_pos (by omega)]
    exact ⟨by congr 1; omega, by congr 1; omega⟩
def insB (p : Prog) (S : List UInt8) (t : Nat) : Ins := insAt p t (S.getD (t * 9) 0).toNat
theorem does_drain (hv : BValid p mach S) {x : Pass} (hx : x ∈ passesF p mach S) (hd : x.drain = true) : ∃ a, Drained S (doesF p mach S x) x.thread.toNat a ∧
    (mach = 3 → stL S x.thread.toNat a = x.loc ∧ ∀ k, k < a → stL S x.thread.toNat k ≠ x.loc) ∧ (mach ≠ 3 → a = 0) := by
  have hpf := pass_facts hv hx
  have h := hpf.2.2.2 hd
  obtain ⟨a, h1, h2, h3, h4⟩ := drain_eq ⟨h.1, (hv.most hpf.2.1).1⟩ h.2
  refine ⟨a, ?_, h2, h3⟩
  unfold doesF
  rw [hd, cond_true, h4]
  exact drained hv hpf.2.1 h1
theorem does_store (hv : BValid p mach S) {x : Pass} (hx : x ∈ passesF p mach S) (hd : x.drain = false) (ho : (insB p S x.thread.toNat).op = 2) (hm : mach ≠ 1) :
    Stored S (doesF p mach S x) x.thread.toNat (keepPos mach S x.thread.toNat (insB p S x.thread.toNat).loc (S.getD (138 + x.thread.toNat) 0).toNat) (insB p S x.thread.toNat).loc (worth (insB p S x.thread.toNat).a ((S.drop (x.thread.toNat * 9 + 1)).take 8)) := by
  have hpf := pass_facts hv hx
  have hpc := hpf.2.2.1 hd
  have h4 := hv.ok.threads
  have hlen := len_le hv.ok x.thread.toNat
  have hmy := hv.many x.thread.toNat hpf.2.1
  unfold doesF
  rw [hd, cond_false]
  unfold insB insAt at ho ⊢
  unfold bGoesF
  rw [ho, show ((2 : UInt8) == 1) = false by rfl, show ((2 : UInt8) == 2) = true by rfl, cond_false, Bool.true_and, bne_iff_ne.2 hm, cond_true]
  unfold bGoesF_v65 bGoesF_a
  rw [keep_eq (by omega)]
  exact stored hv hpf.1 hpc (keepPos_le _ _ _ _ _)
theorem does_load (hv : BValid p mach S) {x : Pass} (hx : x ∈ passesF p mach S) (hd : x.drain = false) (ho : (insB p S x.thread.toNat).op = 1) (j : Nat) :
    (doesF p mach S x).getD j 0 = if j = x.thread.toNat * 9 then S.getD (x.thread.toNat * 9) 0 + 1 else if j = x.thread.toNat * 9 + 1 + (insB p S x.thread.toNat).dst.toNat then seenF S (x.thread.toNat : Int) (insB p S x.thread.toNat).loc else S.getD j 0 := by
  have hpf := pass_facts hv hx
  have hpc := hpf.2.2.1 hd
  have hat := hv.ok.at hpf.1 hpc
  have hdst : ((p.threads.l.getD x.thread.toNat default).l.getD (S.getD (x.thread.toNat * 9) 0).toNat default).dst.toNat < 8 := UInt8.lt_iff_toNat_lt.1 hat.2.dst
  have hS := hv.len
  have h4 := hpf.2.1
  unfold doesF
  rw [hd, cond_false]
  unfold insB insAt at ho ⊢
  unfold bGoesF
  rw [ho, show ((1 : UInt8) == 1) = true by rfl, cond_true]
  unfold bGoesF_v38 bGoesF_a doesF_v20
  have g : ∀ (d : Nat) (v : UInt8), d < 8 → ((S.set (x.thread.toNat * 9 + 1 + d) v).set (x.thread.toNat * 9) ((S.set (x.thread.toNat * 9 + 1 + d) v).getD (x.thread.toNat * 9) 0 + 1)).getD j 0 = if j = x.thread.toNat * 9 then S.getD (x.thread.toNat * 9) 0 + 1 else if j = x.thread.toNat * 9 + 1 + d then v else S.getD j 0 := fun d v hd => by
    rw [set_getD _ _ _ _ (by rw [List.length_set]; omega), show (S.set (x.thread.toNat * 9 + 1 + d) v).getD (x.thread.toNat * 9) 0 = S.getD (x.thread.toNat * 9) 0 by rw [set_getD _ _ _ _ (by omega), if_neg (by omega)], set_getD _ _ _ _ (by omega)]
  exact g _ _ hdst
theorem does_other (hv : BValid p mach S) {x : Pass} (hx : x ∈ passesF p mach S) (hd : x.drain = false) (ho : (insB p S x.thread.toNat).op ≠ 1) (ho2 : (insB p S x.thread.toNat).op = 2 → mach = 1) (j : Nat) :
    (doesF p mach S x).getD j 0 = if 42 ≤ j ∧ j < 142 then S.getD j 0 else (goesF p (bareOf S) x.thread.toNat).getD j 0 := by
  have hpf := pass_facts hv hx
  have hpc := hpf.2.2.1 hd
  unfold doesF
  rw [hd, cond_false]
  unfold insB insAt at ho ho2
  unfold bGoesF
  rw [beq_eq_false_iff_ne.2 ho, cond_false, show (((p.threads.l.getD x.thread.toNat default).l.getD (S.getD (x.thread.toNat * 9) 0).toNat default).op == 2 && (mach != 1)) = false by
    rw [Bool.and_eq_false_iff]
    by_cases h : ((p.threads.l.getD x.thread.toNat default).l.getD (S.getD (x.thread.toNat * 9) 0).toNat default).op = 2
    · right; rw [ho2 h]; rfl
    · left; exact beq_eq_false_iff_ne.2 h, cond_false]
  unfold doesF_v20
  rw [alone_getD hv.len, alone_move hv hpf.1 hpc]
theorem sees_drain (hv : BValid p mach S) {x : Pass} (hx : x ∈ passesF p mach S) (hd : x.drain = true) {loc : UInt8} (hl : loc.toNat < 6) : seenF (doesF p mach S x) (x.thread.toNat : Int) loc = seenF S (x.thread.toNat : Int) loc := by
  have hpf := pass_facts hv hx
  obtain ⟨a, D, h3, h2⟩ := does_drain hv hx hd
  have hT := (does_next hv hx).1
  have hm := (hv.most hpf.2.1).1
  have hmT := (hT.most hpf.2.1).1
  have hlt := D.lt
  have hown := D.own
  have hL := hv.ok.locs
  have hla := hv.loc _ hpf.2.1 a (by omega) D.lt
  rw [seen_eq hpf.2.1 hl hmT, seen_eq hpf.2.1 hl hm]
  generalize doesF p mach S x = T at *
  have hne : ∀ i, i < a → stL S x.thread.toNat i ≠ stL S x.thread.toNat a := fun i hi => by
    rcases Decidable.em (mach = 3) with h | h
    · rw [(h3 h).1]; exact (h3 h).2 i hi
    · have := h2 h; omega
  have key := seen_drain (S := S) (T := T) (t := x.thread.toNat) (a := a) (m := (S.getD (138 + x.thread.toNat) 0).toNat - 1) (loc := loc) (vS := S.getD (36 + loc.toNat) 0) (vT := T.getD (36 + loc.toNat) 0) D.lo (fun i h1 h2 => D.hi i h1 (by omega)) hne (by
    rw [D.mem _ hl]
    by_cases h : stL S x.thread.toNat a = loc
    · rw [if_pos (by rw [h]), if_pos h]
    · rw [if_neg (fun e => h (UInt8.toNat_inj.1 e.symm)), if_neg h]) ((S.getD (138 + x.thread.toNat) 0).toNat - 1 - a) (by omega)
  rw [show a + ((S.getD (138 + x.thread.toNat) 0).toNat - 1 - a) = (T.getD (138 + x.thread.toNat) 0).toNat by omega] at key
  rw [key, show (T.getD (138 + x.thread.toNat) 0).toNat + 1 = (S.getD (138 + x.thread.toNat) 0).toNat by omega]
theorem sees_store (hv : BValid p mach S) {x : Pass} (hx : x ∈ passesF p mach S) (hd : x.drain = false) (ho : (insB p S x.thread.toNat).op = 2) (hm1 : mach ≠ 1) {loc : UInt8} (hl : loc.toNat < 6) :
    seenF (doesF p mach S x) (x.thread.toNat : Int) loc = if (insB p S x.thread.toNat).loc = loc then worth (insB p S x.thread.toNat).a ((S.drop (x.thread.toNat * 9 + 1)).take 8) else seenF S (x.thread.toNat : Int) loc := by
  have hpf := pass_facts hv hx
  have D := does_store hv hx hd ho hm1
  have hT := (does_next hv hx).1
  have hm := (hv.most hpf.2.1).1
  have hmT := (hT.most hpf.2.1).1
  have hle := D.le
  have hown := D.own
  rw [seen_eq hpf.2.1 hl hmT, seen_eq hpf.2.1 hl hm]
  have hks := keepPos_spec mach S x.thread.toNat (insB p S x.thread.toNat).loc (S.getD (138 + x.thread.toNat) 0).toNat
  generalize keepPos mach S x.thread.toNat (insB p S x.thread.toNat).loc (S.getD (138 + x.thread.toNat) 0).toNat = a at *
  generalize doesF p mach S x = T at *
  have h4 := hpf.2.1
  have key := seen_store (S := S) (T := T) (t := x.thread.toNat) (a := a) (m := (S.getD (138 + x.thread.toNat) 0).toNat) (loc := loc) (vS := S.getD (36 + loc.toNat) 0) D.lo D.put D.hi (fun i h1 h2 e => by
    have := (hks.1 i h1 h2).2
    rw [e] at this; omega) ((S.getD (138 + x.thread.toNat) 0).toNat - a) (by omega)
  rw [show a + ((S.getD (138 + x.thread.toNat) 0).toNat - a) = (S.getD (138 + x.thread.toNat) 0).toNat by omega, ← hown] at key
  rw [D.low _ (by omega) (by omega)]
  exact key
theorem sees_other (hv : BValid p mach S) {x : Pass} (hx : x ∈ passesF p mach S) (hd : x.drain = false) (ho : (insB p S x.thread.toNat).op = 2) (hm1 : mach ≠ 1) {loc : UInt8} (hl : loc.toNat < 6) {u : Nat} (hu : u < 4) (hne : u ≠ x.thread.toNat) :
    seenF (doesF p mach S x) (u : Int) loc = seenF S (u : Int) loc := by
  have hpf := pass_facts hv hx
  have D := does_store hv hx hd ho hm1
  have hT := (does_next hv hx).1
  have hm := (hv.most hu).1
  have hmT := (hT.most hu).1
  have h4 := hpf.2.1
  rw [seen_eq hu hl hmT, seen_eq hu hl hm, D.many u hu hne, D.low _ (by omega) (by omega)]
  exact seen_congr _ fun i hi => D.buf u hu hne i (by omega)
theorem sees_mem (hv : BValid p mach S) {loc : UInt8} (hl : loc.toNat < 6) {u : Nat} (hu : u < 4) (h0 : S.getD (138 + u) 0 = 0) : seenF S (u : Int) loc = S.getD (36 + loc.toNat) 0 := by
  rw [seen_eq hu hl (hv.most hu).1, h0]
  rfl
theorem bmove_in {x : Pass} (hv : BValid p mach S) (hx : x ∈ passesF p mach S) : bMoveF p mach S x = (doesF p mach S x, 0) := by
  rw [bMove_eq, if_pos]
  unfold bMovesF
  rw [(bvalid_iff hv.len).2 hv]
  exact hx
end
end Go.Proofs.YtimonjemjhecoaaGreatDoor

namespace Go.Proofs.YtimonjemjhecoaaGreatDoor
open Go.RowKit
open Go
attribute [local irreducible] wpList wpQuiet wpX Code.wp
set_option maxHeartbeats 1000000
set_option maxRecDepth 100000
set_option linter.unusedSimpArgs false
set_option linter.unusedVariables false


inductive Run (p : Prog) : List UInt8 → List Int → List UInt8 → Prop where
  | nil (S : List UInt8) : Run p S [] S
  | cons {S : List UInt8} {t : Int} {l : List Int} {S' : List UInt8} (h : mayF p S t = true) (r : Run p (goesF p S t.toNat) l S') : Run p S (t :: l) S'
theorem Run.valid {p : Prog} {S S' : List UInt8} {l : List Int} (r : Run p S l S') : Valid p S → Valid p S' := by
  induction r with
  | nil => exact id
  | cons h _ ih => exact fun hv => ih (goes_valid hv (mayF_nat.1 h).2)
theorem Run.len {p : Prog} {S S' : List UInt8} {l : List Int} (r : Run p S l S') : Valid p S → l.length + todo p S' ≤ todo p S := by
  induction r with
  | nil => intro _; simp
  | cons h _ ih =>
    intro hv
    have h1 := (mayF_nat.1 h).2
    have := ih (goes_valid hv h1)
    have := goes_todo hv.ok hv.len h1
    simp only [List.length_cons]
    omega
end Go.Proofs.YtimonjemjhecoaaGreatDoor

namespace Go.Proofs.YtimonjemjhecoaaGreatDoor
open Go.RowKit
open Go
attribute [local irreducible] wpList wpQuiet wpX Code.wp
set_option maxHeartbeats 1000000
set_option maxRecDepth 100000
set_option linter.unusedSimpArgs false
set_option linter.unusedVariables false


inductive BRun (p : Prog) (mach : UInt8) : List UInt8 → List Pass → List UInt8 → Prop where
  | nil (S : List UInt8) : BRun p mach S [] S
  | cons {S : List UInt8} {x : Pass} {l : List Pass} {T : List UInt8} (h : x ∈ passesF p mach S) (r : BRun p mach (doesF p mach S x) l T) : BRun p mach S (x :: l) T
theorem BRun.valid {p : Prog} {mach : UInt8} {S T : List UInt8} {l : List Pass} (r : BRun p mach S l T) : BValid p mach S → BValid p mach T := by
  induction r with
  | nil => exact id
  | cons h _ ih => exact fun hv => ih (does_next hv h).1
theorem BRun.len {p : Prog} {mach : UInt8} {S T : List UInt8} {l : List Pass} (r : BRun p mach S l T) : BValid p mach S → l.length + bmeas p T ≤ bmeas p S := by
  induction r with
  | nil => intro _; simp
  | cons h _ ih =>
    intro hv
    have h1 := does_next hv h
    have h2 := ih h1.1
    have h3 := h1.2
    simp only [List.length_cons]
    omega
theorem bplay_run {p : Prog} {mach : UInt8} {picks : List UInt8} : ∀ (n : Nat) (S : List UInt8) (o : List Pass), BValid p mach S → bmeas p S < n →
    ∃ l T, BRun p mach S l T ∧ passesF p mach T = [] ∧ loopF (bPlayF_a p mach picks) n (passesF p mach S, o, S) = (finalF T, o ++ l, 0)
  | 0, S, o, _, h => by omega
  | n + 1, S, o, hv, h => by
    have key : ∀ k, k < (passesF p mach S).length → ∀ o', ∃ l T, BRun p mach (doesF p mach S ((passesF p mach S).getD k default)) l T ∧ passesF p mach T = [] ∧ loopF (bPlayF_a p mach picks) n (passesF p mach (doesF p mach S ((passesF p mach S).getD k default)), o', doesF p mach S ((passesF p mach S).getD k default)) = (finalF T, o' ++ l, 0) := fun k hk o' => by
      have hm := does_next hv (passes_at hk)
      exact bplay_run n _ o' hm.1 (by have := hm.2; omega)
    show ∃ l T, BRun p mach S l T ∧ passesF p mach T = [] ∧ bPlayF_a p mach picks (loopF (bPlayF_a p mach picks) n) (passesF p mach S, o, S) = _
    simp only [bPlayF_a]
    cases hc : decide ((0 : Int) < ((passesF p mach S).length : Nat)) <;> simp only [cond_true, cond_false]
    · have hc := of_decide_eq_false hc
      exact ⟨[], S, .nil S, List.length_eq_zero_iff.1 (by omega), by simp⟩
    · have hc := of_decide_eq_true hc
      have step : ∀ k, k < (passesF p mach S).length → ∃ l T, BRun p mach S l T ∧ passesF p mach T = [] ∧ loopF (bPlayF_a p mach picks) n (passesF p mach (doesF p mach S ((passesF p mach S).getD k default)), o ++ [(passesF p mach S).getD k default], doesF p mach S ((passesF p mach S).getD k default)) = (finalF T, o ++ l, 0) := fun k hk => by
        obtain ⟨l, T, r, h1, h2⟩ := key k hk (o ++ [(passesF p mach S).getD k default])
        exact ⟨_, T, .cons (passes_at hk) r, h1, by rw [h2]; simp⟩
      cases decide ((o.length : Int) < (picks.length : Int)) <;> simp only [cond_true, cond_false]
      · exact step _ (by omega)
      · exact step _ (Nat.mod_lt _ (by omega))
theorem bplay_eq {p : Prog} {mach : UInt8} (h : rightF p = 0) (hk : mach = 1 ∨ mach = 2 ∨ mach = 3) (picks : List UInt8) : ∃ l T, BRun p mach (startF p).1 l T ∧ passesF p mach T = [] ∧ bPlayF p mach picks = (finalF T, l, 0) := by
  have hv := start_bvalid h hk
  obtain ⟨l, T, r, h1, h2⟩ := bplay_run (picks := picks) 97 (startF p).1 [] hv (by have := hv.meas_le; omega)
  refine ⟨l, T, r, h1, ?_⟩
  unfold bPlayF
  rw [h, (known_iff mach).2 hk]
  simp only [bne_self_eq_false, Bool.not_true, Bool.or_false, cond_false]
  rw [h2, List.nil_append]
theorem bplay_no {p : Prog} {mach : UInt8} (h : rightF p ≠ 0) (picks : List UInt8) : bPlayF p mach picks = (List.replicate 38 0, [], 2) := by
  unfold bPlayF
  rw [bne_iff_ne.2 h]
  rfl
theorem bstart_right {p : Prog} (h : (startF p).2 = 0) : rightF p = 0 := by
  by_cases hr : rightF p = 0
  · exact hr
  · rw [start_no hr] at h; cases h
theorem bplay_order {p : Prog} {mach : UInt8} (hk : mach = 1 ∨ mach = 2 ∨ mach = 3) (picks : List UInt8) : (bPlayF p mach picks).2.1.length ≤ 96 := by
  by_cases hr : rightF p = 0
  · obtain ⟨l, T, r, _, h2⟩ := bplay_eq hr hk picks
    have hv := start_bvalid hr hk
    have h3 := r.len hv
    have h4 := hv.meas_le
    rw [h2]
    show l.length ≤ 96
    omega
  · rw [bplay_no hr]; exact Nat.zero_le _
end Go.Proofs.YtimonjemjhecoaaGreatDoor

namespace Go.Proofs.YtimonjemjhecoaaGreatDoor
open Go.RowKit
open Go
attribute [local irreducible] wpList wpQuiet wpX Code.wp
set_option maxHeartbeats 1000000
set_option maxRecDepth 100000
set_option linter.unusedSimpArgs false
set_option linter.unusedVariables false


section
variable {p : Prog} {mach : UInt8} {S : List UInt8}
theorem drains_flag (hv : BValid p mach S) {d : Nat} (hd : d < p.threads.l.length) : (passesF p mach S).any (fun x => ((x.thread.toNat : Int) == (d : Int)) && x.drain) = decide ((0 : UInt8) < S.getD (138 + d) 0) := by
  have h4 := hv.ok.threads
  have hU := thU_nat (show d < 256 by omega)
  rw [Bool.eq_iff_iff, List.any_eq_true, decide_eq_true_iff, UInt8.lt_iff_toNat_lt]
  have z : (0 : UInt8).toNat = 0 := rfl
  constructor
  · rintro ⟨x, hx, hc⟩
    rw [Bool.and_eq_true, beq_iff_eq] at hc
    obtain ⟨t, ht, hx⟩ := passes_mem.1 hx
    have hUt := thU_nat (show t < 256 by omega)
    rcases hx with ⟨h1, rfl⟩ | ⟨k, hk, hc', rfl⟩
    · cases hc.2
    · have e : t = d := by have := hc.1; rw [show (drP mach S t k).thread.toNat = t from hUt] at this; omega
      subst e; omega
  · intro h
    have hsc := hv.sc d (by omega) (by omega)
    refine ⟨drP mach S d 0, passes_mem.2 ⟨d, hd, .inr ⟨0, by omega, ?_, rfl⟩⟩, ?_⟩
    · unfold drC
      rcases hv.kind with rfl | rfl | rfl
      · exact absurd rfl hsc
      · rfl
      · rfl
    · rw [Bool.and_eq_true, beq_iff_eq]
      exact ⟨by rw [show (drP mach S d 0).thread.toNat = d from hU], rfl⟩
theorem bmay_iff {d : Nat} : bMayF p mach S d = true ↔ (S.getD (d * 9) 0).toNat < (p.threads.l.getD d default).l.length ∧
    ((insB p S d).op = 4 ∨ (insB p S d).op = 5 ∨ (insB p S d).op = 6 → S.getD (138 + d) 0 = 0) ∧ ((insB p S d).op = 7 → S.getD (138 + d) 0 = 0 ∨ (insB p S d).mode = 4 ∨ ((insB p S d).mode = 5 ∧ mach ≠ 3)) := by
  unfold bMayF bMayF_a
  change (bif decide ((((p.threads.l.getD d default).l.length : Nat) : Int) ≤ ((S.getD (d * 9) 0).toNat : Int)) then false else bif ((insB p S d).op == 4) then (bif ((insB p S d).op == 4) then (S.getD (138 + d) 0 == 0) else _) else bif ((insB p S d).op == 5) then (bif ((insB p S d).op == 5) then (S.getD (138 + d) 0 == 0) else _) else (bif ((insB p S d).op == 6) then (S.getD (138 + d) 0 == 0) else bif ((insB p S d).op == 7) then ((S.getD (138 + d) 0 == 0 || (insB p S d).mode == 4) || ((insB p S d).mode == 5 && (mach != 3))) else true)) = true ↔ _
  generalize insB p S d = i
  generalize S.getD (138 + d) 0 = z
  generalize (S.getD (d * 9) 0).toNat = a
  generalize (p.threads.l.getD d default).l.length = n
  rcases Nat.lt_or_ge a n with hpc | hpc
  · rw [decide_eq_false (by omega), cond_false]
    by_cases h4 : i.op = 4
    · simp [h4, hpc]
    · by_cases h5 : i.op = 5
      · simp [h5, hpc]
      · by_cases h6 : i.op = 6
        · simp [h6, hpc]
        · by_cases h7 : i.op = 7
          · simp [h7, hpc, or_assoc]
          · simp [h4, h5, h6, h7, hpc]
  · rw [decide_eq_true (by omega), cond_true]
    exact ⟨fun h => (by cases h), fun h => absurd h.1 (by omega)⟩
theorem end_empty (hv : BValid p mach S) (h : passesF p mach S = []) : ∀ t, t < 4 → S.getD (138 + t) 0 = 0 := fun t ht => by
  rcases Nat.lt_or_ge t p.threads.l.length with h1 | h1
  · have h2 := drains_flag hv h1
    rw [h] at h2
    have h3 := of_decide_eq_false h2.symm
    rw [UInt8.lt_iff_toNat_lt] at h3
    have z : (0 : UInt8).toNat = 0 := rfl
    exact UInt8.toNat_inj.1 (by omega)
  · exact (hv.most ht).2 h1
end
end Go.Proofs.YtimonjemjhecoaaGreatDoor

namespace Go.Proofs.YtimonjemjhecoaaGreatDoor
open Go.RowKit
open Go
attribute [local irreducible] wpList wpQuiet wpX Code.wp
set_option maxHeartbeats 1000000
set_option maxRecDepth 100000
set_option linter.unusedSimpArgs false
set_option linter.unusedVariables false


section
variable {p : Prog} {mach : UInt8} {S T : List UInt8}
end

end Go.Proofs.YtimonjemjhecoaaGreatDoor

namespace Go.Proofs.YtimonjemjhecoaaGreatDoor
open Go.RowKit
open Go
attribute [local irreducible] wpList wpQuiet wpX Code.wp
set_option maxHeartbeats 1000000
set_option maxRecDepth 100000
set_option linter.unusedSimpArgs false
set_option linter.unusedVariables false

end Go.Proofs.YtimonjemjhecoaaGreatDoor
