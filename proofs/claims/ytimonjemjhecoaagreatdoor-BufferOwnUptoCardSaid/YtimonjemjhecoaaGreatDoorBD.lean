/- Walks, printed by a program of this repository (wip/tool). -/
import Derived.Test.YtimonjemjhecoaaGreatDoorBSn
import Derived.Test.YtimonjemjhecoaaGreatDoorLB1
namespace Go.Proofs.YtimonjemjhecoaaGreatDoor
open Go.RowKit
open Go
attribute [local irreducible] wpList wpQuiet wpX Code.wp
set_option maxHeartbeats 1000000
set_option maxRecDepth 100000
set_option linter.unusedSimpArgs false
set_option linter.unusedVariables false


/-- T is S after the drain of the store at a of thread t. -/
structure Drained (S T : List UInt8) (t a : Nat) : Prop where
  lt : a < (S.getD (138 + t) 0).toNat
  low : ∀ j, j < 36 → T.getD j 0 = S.getD j 0
  mem : ∀ l, l < 6 → T.getD (36 + l) 0 = if l = (stL S t a).toNat then stV S t a else S.getD (36 + l) 0
  own : (T.getD (138 + t) 0).toNat + 1 = (S.getD (138 + t) 0).toNat
  many : ∀ u, u < 4 → u ≠ t → T.getD (138 + u) 0 = S.getD (138 + u) 0
  buf : ∀ u, u < 4 → u ≠ t → ∀ i, i < 12 → stL T u i = stL S u i ∧ stV T u i = stV S u i
  lo : ∀ i, i < a → stL T t i = stL S t i ∧ stV T t i = stV S t i
  hi : ∀ i, a ≤ i → i + 1 < (S.getD (138 + t) 0).toNat → stL T t i = stL S t (i + 1) ∧ stV T t i = stV S t (i + 1)
/-- T is S after a store of thread t, kept at a. -/
structure Stored (S T : List UInt8) (t a : Nat) (x y : UInt8) : Prop where
  le : a ≤ (S.getD (138 + t) 0).toNat
  low : ∀ j, j < 42 → j ≠ t * 9 → T.getD j 0 = S.getD j 0
  pc : (T.getD (t * 9) 0).toNat = (S.getD (t * 9) 0).toNat + 1
  own : (T.getD (138 + t) 0).toNat = (S.getD (138 + t) 0).toNat + 1
  many : ∀ u, u < 4 → u ≠ t → T.getD (138 + u) 0 = S.getD (138 + u) 0
  buf : ∀ u, u < 4 → u ≠ t → ∀ i, i < 12 → stL T u i = stL S u i ∧ stV T u i = stV S u i
  lo : ∀ i, i < a → stL T t i = stL S t i ∧ stV T t i = stV S t i
  put : stL T t a = x ∧ stV T t a = y
  hi : ∀ i, a ≤ i → i < (S.getD (138 + t) 0).toNat → stL T t (i + 1) = stL S t i ∧ stV T t (i + 1) = stV S t i
section
variable {p : Prog} {mach : UInt8} {S T : List UInt8}
theorem drained (hv : BValid p mach S) {t a : Nat} (ht : t < 4) (ha : a < (S.getD (138 + t) 0).toNat) : Drained S (drainAt S t (S.getD (138 + t) 0).toNat a) t a := by
  have hm := (hv.most ht).1
  have hl := hv.loc t ht a (by omega) ha
  have hL := hv.ok.locs
  have hS := hv.len
  have g := fun j => drainAt_getD (j := j) hS ht hm ha (by omega)
  have hsub : (S.getD (138 + t) 0 - 1).toNat = (S.getD (138 + t) 0).toNat - 1 := by rcases u8_sub1 (S.getD (138 + t) 0) with h | h <;> omega
  generalize hT : drainAt S t (S.getD (138 + t) 0).toNat a = T at *
  refine ⟨ha, fun j hj => ?_, fun l hl => ?_, ?_, fun u hu hne => ?_, fun u hu hne i hi => ?_, fun i hi => ?_, fun i h1 h2 => ?_⟩
  · rw [g, if_neg (by omega), if_neg (by omega), if_neg (by omega), if_neg (by omega)]
  · rw [g, if_neg (by omega), if_neg (by omega), if_neg (by omega)]
    by_cases h : l = (stL S t a).toNat
    · rw [if_pos h, if_pos (by omega)]
    · rw [if_neg h, if_neg (by omega)]
  · rw [g, if_pos rfl, hsub]; omega
  · rw [g, if_neg (by omega), if_neg (by omega), if_neg (by omega), if_neg (by omega)]
  · unfold stL stV
    rw [g, g, if_neg (by omega), if_neg (by omega), if_neg (by omega), if_neg (by omega), if_neg (by omega), if_neg (by omega), if_neg (by omega), if_neg (by omega)]
    exact ⟨rfl, rfl⟩
  · unfold stL stV
    rw [g, g, if_neg (by omega), if_neg (by omega), if_neg (by omega), if_neg (by omega), if_neg (by omega), if_neg (by omega), if_neg (by omega), if_neg (by omega)]
    exact ⟨rfl, rfl⟩
  · unfold stL stV
    rw [g, g, if_neg (by omega), if_neg (by omega), if_pos (by omega), if_neg (by omega), if_neg (by omega), if_pos (by omega)]
    exact ⟨by congr 1; omega, by congr 1; omega⟩
theorem stored (hv : BValid p mach S) {t a : Nat} {x y : UInt8} (ht : t < p.threads.l.length) (hpc : (S.getD (t * 9) 0).toNat < (p.threads.l.getD t default).l.length)
    (hal : a ≤ (S.getD (138 + t) 0).toNat) : Stored S ((keepAt S t [x, y] (S.getD (138 + t) 0).toNat a).set (t * 9) ((keepAt S t [x, y] (S.getD (138 + t) 0).toNat a).getD (t * 9) 0 + 1)) t a x y := by
  have h4 := hv.ok.threads
  have hlen := len_le hv.ok t
  have hmy := hv.many t (by omega)
  have hS := hv.len
  have ht4 : t < 4 := by omega
  have hm12 : (S.getD (138 + t) 0).toNat < 12 := by omega
  have hx : [x, y].length = 2 := rfl
  have g0 := fun j => keepAt_getD (j := j) hS hx ht4 hm12 hal
  have hl0 := keepAt_len hS hx ht4 hm12 hal
  generalize hU : keepAt S t [x, y] (S.getD (138 + t) 0).toNat a = U at *
  have g : ∀ j, (U.set (t * 9) (U.getD (t * 9) 0 + 1)).getD j 0 = if j = t * 9 then U.getD (t * 9) 0 + 1 else U.getD j 0 := fun j => by rw [set_getD _ _ _ _ (by omega)]
  generalize U.set (t * 9) (U.getD (t * 9) 0 + 1) = T at *
  have hadd : (S.getD (138 + t) 0 + 1).toNat = (S.getD (138 + t) 0).toNat + 1 := by rw [UInt8.toNat_add]; have : (1 : UInt8).toNat = 1 := rfl; omega
  have hpc1 : (S.getD (t * 9) 0 + 1).toNat = (S.getD (t * 9) 0).toNat + 1 := by rw [UInt8.toNat_add]; have : (1 : UInt8).toNat = 1 := rfl; omega
  refine ⟨hal, fun j hj hne => ?_, ?_, ?_, fun u hu hne => ?_, fun u hu hne i hi => ?_, fun i hi => ?_, ?_, fun i h1 h2 => ?_⟩
  · rw [g, if_neg hne, g0, if_neg (by omega), if_neg (by omega), if_neg (by omega)]
  · rw [g, if_pos rfl, g0, if_neg (by omega), if_neg (by omega), if_neg (by omega), hpc1]
  · rw [g, if_neg (by omega), g0, if_pos rfl, hadd]
  · rw [g, if_neg (by omega), g0, if_neg (by omega), if_neg (by omega), if_neg (by omega)]
  · unfold stL stV
    rw [g, if_neg (by omega), g0, if_neg (by omega), if_neg (by omega), if_neg (by omega), g, if_neg (by omega), g0, if_neg (by omega), if_neg (by omega), if_neg (by omega)]
    exact ⟨rfl, rfl⟩
  · unfold stL stV
    rw [g, if_neg (by omega), g0, if_neg (by omega), if_neg (by omega), if_neg (by omega), g, if_neg (by omega), g0, if_neg (by omega), if_neg (by omega), if_neg (by omega)]
    exact ⟨rfl, rfl⟩
  · unfold stL stV
    rw [g, if_neg (by omega), g0, if_neg (by omega), if_pos (by omega), g, if_neg (by omega), g0, if_neg (by omega), if_pos (by omega), show 42 + t * 24 + a * 2 - (42 + t * 24 + a * 2) = 0 by omega, show 42 + t * 24 + a * 2 + 1 - (42 + t * 24 + a * 2) = 1 by omega]
    exact ⟨rfl, rfl⟩
  · unfold stL stV
    rw [g, if_neg (by omega), g0, if_neg (by omega), if_neg (by omega), if_pos (by omega), g, if_neg (by omega), g0, if_neg (by omega), if_neg (by omega), if_pos (by omega)]
    exact ⟨by congr 1; omega, by congr 1; omega⟩
/-- The instruction that thread t executes next. -/
def insB (p : Prog) (S : List UInt8) (t : Nat) : Ins := insAt p t (S.getD (t * 9) 0).toNat
/-- A drain. -/
theorem does_drain (hv : BValid p mach S) {x : Pass} (hx : x ∈ passesF p mach S) (hd : x.drain = true) : ∃ a, Drained S (doesF p mach S x) x.thread.toNat a ∧
    (mach = 3 → stL S x.thread.toNat a = x.loc ∧ ∀ k, k < a → stL S x.thread.toNat k ≠ x.loc) ∧ (mach ≠ 3 → a = 0) := by
  have hpf := pass_facts hv hx
  have h := hpf.2.2.2 hd
  obtain ⟨a, h1, h2, h3, h4⟩ := drain_eq ⟨h.1, (hv.most hpf.2.1).1⟩ h.2
  refine ⟨a, ?_, h2, h3⟩
  unfold doesF
  rw [hd, cond_true, h4]
  exact drained hv hpf.2.1 h1
/-- A store that is buffered. -/
theorem does_store (hv : BValid p mach S) {x : Pass} (hx : x ∈ passesF p mach S) (hd : x.drain = false) (ho : (insB p S x.thread.toNat).op = 2) (hm : mach ≠ 1) :
    Stored S (doesF p mach S x) x.thread.toNat (keepPos mach S x.thread.toNat (insB p S x.thread.toNat).loc (S.getD (138 + x.thread.toNat) 0).toNat) (insB p S x.thread.toNat).loc (worth (insB p S x.thread.toNat).a ((S.drop (x.thread.toNat * 9 + 1)).take 8)) := by
  have hpf := pass_facts hv hx
  have hpc := hpf.2.2.1 hd
  have h4 := hv.ok.threads
  have hlen := len_le hv.ok x.thread.toNat
  have hmy := hv.many x.thread.toNat hpf.2.1
  unfold doesF
  rw [hd, cond_false]
  unfold insB insAt at ho ⊢
  unfold bGoesF
  rw [ho, show ((2 : UInt8) == 1) = false by rfl, show ((2 : UInt8) == 2) = true by rfl, cond_false, Bool.true_and, bne_iff_ne.2 hm, cond_true]
  unfold bGoesF_v65 bGoesF_a
  rw [keep_eq (by omega)]
  exact stored hv hpf.1 hpc (keepPos_le _ _ _ _ _)
/-- What the thread sees after its drain. -/
theorem sees_drain (hv : BValid p mach S) {x : Pass} (hx : x ∈ passesF p mach S) (hd : x.drain = true) {loc : UInt8} (hl : loc.toNat < 6) : seenF (doesF p mach S x) (x.thread.toNat : Int) loc = seenF S (x.thread.toNat : Int) loc := by
  have hpf := pass_facts hv hx
  obtain ⟨a, D, h3, h2⟩ := does_drain hv hx hd
  have hT := (does_next hv hx).1
  have hm := (hv.most hpf.2.1).1
  have hmT := (hT.most hpf.2.1).1
  have hlt := D.lt
  have hown := D.own
  have hL := hv.ok.locs
  have hla := hv.loc _ hpf.2.1 a (by omega) D.lt
  rw [seen_eq hpf.2.1 hl hmT, seen_eq hpf.2.1 hl hm]
  generalize doesF p mach S x = T at *
  have hne : ∀ i, i < a → stL S x.thread.toNat i ≠ stL S x.thread.toNat a := fun i hi => by
    rcases Decidable.em (mach = 3) with h | h
    · rw [(h3 h).1]; exact (h3 h).2 i hi
    · have := h2 h; omega
  have key := seen_drain (S := S) (T := T) (t := x.thread.toNat) (a := a) (m := (S.getD (138 + x.thread.toNat) 0).toNat - 1) (loc := loc) (vS := S.getD (36 + loc.toNat) 0) (vT := T.getD (36 + loc.toNat) 0) D.lo (fun i h1 h2 => D.hi i h1 (by omega)) hne (by
    rw [D.mem _ hl]
    by_cases h : stL S x.thread.toNat a = loc
    · rw [if_pos (by rw [h]), if_pos h]
    · rw [if_neg (fun e => h (UInt8.toNat_inj.1 e.symm)), if_neg h]) ((S.getD (138 + x.thread.toNat) 0).toNat - 1 - a) (by omega)
  rw [show a + ((S.getD (138 + x.thread.toNat) 0).toNat - 1 - a) = (T.getD (138 + x.thread.toNat) 0).toNat by omega] at key
  rw [key, show (T.getD (138 + x.thread.toNat) 0).toNat + 1 = (S.getD (138 + x.thread.toNat) 0).toNat by omega]
/-- What the thread sees after its store. -/
theorem sees_store (hv : BValid p mach S) {x : Pass} (hx : x ∈ passesF p mach S) (hd : x.drain = false) (ho : (insB p S x.thread.toNat).op = 2) (hm1 : mach ≠ 1) {loc : UInt8} (hl : loc.toNat < 6) :
    seenF (doesF p mach S x) (x.thread.toNat : Int) loc = if (insB p S x.thread.toNat).loc = loc then worth (insB p S x.thread.toNat).a ((S.drop (x.thread.toNat * 9 + 1)).take 8) else seenF S (x.thread.toNat : Int) loc := by
  have hpf := pass_facts hv hx
  have D := does_store hv hx hd ho hm1
  have hT := (does_next hv hx).1
  have hm := (hv.most hpf.2.1).1
  have hmT := (hT.most hpf.2.1).1
  have hle := D.le
  have hown := D.own
  rw [seen_eq hpf.2.1 hl hmT, seen_eq hpf.2.1 hl hm]
  have hks := keepPos_spec mach S x.thread.toNat (insB p S x.thread.toNat).loc (S.getD (138 + x.thread.toNat) 0).toNat
  generalize keepPos mach S x.thread.toNat (insB p S x.thread.toNat).loc (S.getD (138 + x.thread.toNat) 0).toNat = a at *
  generalize doesF p mach S x = T at *
  have h4 := hpf.2.1
  have key := seen_store (S := S) (T := T) (t := x.thread.toNat) (a := a) (m := (S.getD (138 + x.thread.toNat) 0).toNat) (loc := loc) (vS := S.getD (36 + loc.toNat) 0) D.lo D.put D.hi (fun i h1 h2 e => by
    have := (hks.1 i h1 h2).2
    rw [e] at this; omega) ((S.getD (138 + x.thread.toNat) 0).toNat - a) (by omega)
  rw [show a + ((S.getD (138 + x.thread.toNat) 0).toNat - a) = (S.getD (138 + x.thread.toNat) 0).toNat by omega, ← hown] at key
  rw [D.low _ (by omega) (by omega)]
  exact key
/-- What another thread sees after a store. -/
theorem sees_other (hv : BValid p mach S) {x : Pass} (hx : x ∈ passesF p mach S) (hd : x.drain = false) (ho : (insB p S x.thread.toNat).op = 2) (hm1 : mach ≠ 1) {loc : UInt8} (hl : loc.toNat < 6) {u : Nat} (hu : u < 4) (hne : u ≠ x.thread.toNat) :
    seenF (doesF p mach S x) (u : Int) loc = seenF S (u : Int) loc := by
  have hpf := pass_facts hv hx
  have D := does_store hv hx hd ho hm1
  have hT := (does_next hv hx).1
  have hm := (hv.most hu).1
  have hmT := (hT.most hu).1
  have h4 := hpf.2.1
  rw [seen_eq hu hl hmT, seen_eq hu hl hm, D.many u hu hne, D.low _ (by omega) (by omega)]
  exact seen_congr _ fun i hi => D.buf u hu hne i (by omega)
theorem sees_mem (hv : BValid p mach S) {loc : UInt8} (hl : loc.toNat < 6) {u : Nat} (hu : u < 4) (h0 : S.getD (138 + u) 0 = 0) : seenF S (u : Int) loc = S.getD (36 + loc.toNat) 0 := by
  rw [seen_eq hu hl (hv.most hu).1, h0]
  rfl
theorem storeF_iff {t : Nat} (ht : t < p.threads.l.length) (hpc : (S.getD (t * 9) 0).toNat < (p.threads.l.getD t default).l.length) : storeF p S (t : Int) = ((insB p S t).op == 2) := by
  unfold storeF insB insAt
  rw [Int.toNat_natCast, decide_eq_true (by omega), decide_eq_true (by omega), Bool.true_and, Bool.true_and]
theorem bmove_in {x : Pass} (hv : BValid p mach S) (hx : x ∈ passesF p mach S) : bMoveF p mach S x = (doesF p mach S x, 0) := by
  rw [bMove_eq, if_pos]
  unfold bMovesF
  rw [(bvalid_iff hv.len).2 hv]
  exact hx
end
/-- A state behind some moves is valid; its flag is false only if the program is not valid. -/
theorem bbehind_yes {p : Prog} {mach : UInt8} (hk : mach = 1 ∨ mach = 2 ∨ mach = 3) (h : rightF p = 0) (picks : List UInt8) : (bBehindF p mach picks).2 = true ∧ BValid p mach (bBehindF p mach picks).1 := by
  unfold bBehindF
  have h0 := (start_valid h).1
  have hv := start_bvalid h hk
  revert hv
  rw [h0]
  generalize (startF p).1 = S
  generalize picks.take (min picks.length 60) = l
  induction l generalizing S with
  | nil => intro hv; exact ⟨rfl, hv⟩
  | cons y l ih =>
    intro hv
    show (bBehindF_a p mach y (loopL (bBehindF_a p mach) bBehindF_ak l) (0, S)).2 = true ∧ BValid p mach (bBehindF_a p mach y (loopL (bBehindF_a p mach) bBehindF_ak l) (0, S)).1
    simp only [bBehindF_a]
    cases hc : (((0 : Int) != 0) || ((((bMovesF p mach S).length : Nat) : Int) == (0 : Int)))
    · rw [cond_false]
      have hc' : ((((bMovesF p mach S).length : Nat) : Int) == (0 : Int)) = false := by simpa using hc
      have hne : (bMovesF p mach S).length ≠ 0 := by
        rw [beq_eq_false_iff_ne] at hc'
        omega
      have hat := bmoves_at (p := p) (mach := mach) hv.len (k := y.toNat % (bMovesF p mach S).length) (Nat.mod_lt _ (by omega))
      rw [bmove_in hv hat.2]
      exact ih _ (does_next hv hat.2).1
    · rw [cond_true]
      exact ⟨rfl, hv⟩
theorem bbehind_no {p : Prog} {mach : UInt8} (h : rightF p ≠ 0) (picks : List UInt8) : (bBehindF p mach picks).2 = false := by
  unfold bBehindF
  rw [start_no h]
  generalize picks.take (min picks.length 60) = l
  cases l with
  | nil => rfl
  | cons y l => rfl

end Go.Proofs.YtimonjemjhecoaaGreatDoor
