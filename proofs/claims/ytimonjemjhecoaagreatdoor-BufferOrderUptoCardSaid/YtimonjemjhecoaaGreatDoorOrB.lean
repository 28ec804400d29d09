/- Walks, printed by a program of this repository (wip/tool). -/
import Derived.Test.YtimonjemjhecoaaGreatDoorBQ
namespace Go.Proofs.YtimonjemjhecoaaGreatDoor
open Go.RowKit
open Go
attribute [local irreducible] wpList wpQuiet wpX Code.wp
set_option maxHeartbeats 1000000
set_option maxRecDepth 100000
set_option linter.unusedSimpArgs false
set_option linter.unusedVariables false


def RunAt (p : Prog) (mach : UInt8) (picks : List UInt8) (k : Nat) (S : List UInt8) : Prop := BValid p mach S ∧ ∃ T, BRun p mach S ((bPlayF p mach picks).2.1.drop k) T
theorem runAt_start {p : Prog} {mach : UInt8} {picks : List UInt8} (h : rightF p = 0) (hk : mach = 1 ∨ mach = 2 ∨ mach = 3) : RunAt p mach picks 0 (startF p).1 := by
  obtain ⟨l, T, r, _, h2⟩ := bplay_eq h hk picks
  refine ⟨start_bvalid h hk, T, ?_⟩
  rw [h2]
  exact r
theorem runAt_pass {p : Prog} {mach : UInt8} {picks : List UInt8} {k : Nat} {S : List UInt8} (h : RunAt p mach picks k S) (hk : k < (bPlayF p mach picks).2.1.length) : (bPlayF p mach picks).2.1.getD k default ∈ passesF p mach S := by
  obtain ⟨_, T, r⟩ := h
  have e : (bPlayF p mach picks).2.1.getD k default = (bPlayF p mach picks).2.1[k] := by rw [List.getD_eq_getElem?_getD, List.getElem?_eq_getElem hk]; rfl
  rw [List.drop_eq_getElem_cons hk, ← e] at r
  cases r with
  | cons h _ => exact h
theorem runAt_step {p : Prog} {mach : UInt8} {picks : List UInt8} {k : Nat} {S : List UInt8} (h : RunAt p mach picks k S) (hk : k < (bPlayF p mach picks).2.1.length) {v : List UInt8 × Int} (hv : bMoveF p mach S ((bPlayF p mach picks).2.1.getD k default) = v) : RunAt p mach picks (k + 1) v.1 := by
  have hx := runAt_pass h hk
  obtain ⟨hb, T, r⟩ := h
  have e : (bPlayF p mach picks).2.1.getD k default = (bPlayF p mach picks).2.1[k] := by rw [List.getD_eq_getElem?_getD, List.getElem?_eq_getElem hk]; rfl
  rw [bmove_in hb hx] at hv
  subst hv
  refine ⟨(does_next hb hx).1, T, ?_⟩
  rw [List.drop_eq_getElem_cons hk, ← e] at r
  cases r with
  | cons _ r => exact r
theorem runAt_ins {p : Prog} {mach : UInt8} {picks : List UInt8} {k : Nat} {S : List UInt8} (h : RunAt p mach picks k S) (hk : k < (bPlayF p mach picks).2.1.length) (hd : ((bPlayF p mach picks).2.1.getD k default).drain = false) :
    (S.getD (((bPlayF p mach picks).2.1.getD k default).thread.toNat * 9) 0).toNat < (p.threads.l.getD ((bPlayF p mach picks).2.1.getD k default).thread.toNat default).l.length ∧ ((p.threads.l.getD ((bPlayF p mach picks).2.1.getD k default).thread.toNat default).l.getD (S.getD (((bPlayF p mach picks).2.1.getD k default).thread.toNat * 9) 0).toNat default).loc.toNat < 6 := by
  have hpf := pass_facts h.1 (runAt_pass h hk)
  have hpc := hpf.2.2.1 hd
  have h1 := h.1.ok.loc hpf.1 hpc
  have h2 := h.1.ok.locs
  have h3 : ((p.threads.l.getD ((bPlayF p mach picks).2.1.getD k default).thread.toNat default).l.getD (S.getD (((bPlayF p mach picks).2.1.getD k default).thread.toNat * 9) 0).toNat default).loc.toNat < p.locs.l.length := h1
  exact ⟨hpc, by omega⟩
structure Sto where
  loc : UInt8
  val : UInt8
  deriving DecidableEq, Inhabited
def Sto.cells (x : Sto) : List Value := [bv x.loc, bv x.val]
theorem sto_at {l : List Sto} (h : ∀ y ∈ l, y.loc.toNat < 6) (k : Nat) : (l.getD k default).loc.toNat < 6 := by
  rcases Nat.lt_or_ge k l.length with hk | hk
  · exact h _ (by rw [List.getD_eq_getElem?_getD, List.getElem?_eq_getElem hk]; exact List.getElem_mem hk)
  · rw [List.getD_eq_getElem?_getD, List.getElem?_eq_none hk]; decide
theorem sto_cut {l : List Sto} (h : ∀ y ∈ l, y.loc.toNat < 6) (k : Nat) : ∀ y ∈ l.take k ++ l.drop (k + 1), y.loc.toNat < 6 := fun y hy => by
  rcases List.mem_append.1 hy with h1 | h1
  · exact h y (List.mem_of_mem_take h1)
  · exact h y (List.mem_of_mem_drop h1)
theorem sto_put {l : List Sto} (h : ∀ y ∈ l, y.loc.toNat < 6) {z : Sto} (hz : z.loc.toNat < 6) : ∀ y ∈ l ++ [z], y.loc.toNat < 6 := fun y hy => by
  rcases List.mem_append.1 hy with h1 | h1
  · exact h y h1
  · rw [List.mem_singleton.1 h1]; exact hz
theorem Sto.cells_n (x : Sto) : x.cells.length = 2 ∧ 0 < 2 := by simp [Sto.cells]
def bufL (S : List UInt8) (t m : Nat) : List Sto := (List.range m).map fun i => ⟨stL S t i, stV S t i⟩
theorem bufL_len (S : List UInt8) (t m : Nat) : (bufL S t m).length = m := by simp [bufL]
theorem bufL_get {S : List UInt8} {t m i : Nat} : (bufL S t m)[i]? = if i < m then some ⟨stL S t i, stV S t i⟩ else none := by
  unfold bufL
  rw [List.getElem?_map]
  split
  · rename_i h; rw [List.getElem?_range h]; rfl
  · rename_i h; rw [List.getElem?_eq_none (by simp; omega)]; rfl
theorem bufL_getD {S : List UInt8} {t m i : Nat} (h : i < m) : (bufL S t m).getD i default = ⟨stL S t i, stV S t i⟩ := by
  rw [List.getD_eq_getElem?_getD, bufL_get, if_pos h]
  rfl
theorem bufL_congr {S T : List UInt8} {t m : Nat} (h : ∀ i, i < m → stL T t i = stL S t i ∧ stV T t i = stV S t i) : bufL T t m = bufL S t m := by
  unfold bufL
  refine List.map_congr_left fun i hi => ?_
  rw [List.mem_range] at hi
  rw [(h i hi).1, (h i hi).2]
theorem bufL_drain {S T : List UInt8} {t a : Nat} (D : Drained S T t a) : bufL T t (T.getD (138 + t) 0).toNat = (bufL S t (S.getD (138 + t) 0).toNat).take a ++ (bufL S t (S.getD (138 + t) 0).toNat).drop (a + 1) := by
  have h1 := D.lt
  have h2 := D.own
  refine List.ext_getElem? fun i => ?_
  rcases Nat.lt_or_ge i a with h | h
  · rw [List.getElem?_append_left (by rw [List.length_take, bufL_len]; omega), List.getElem?_take, if_pos h, bufL_get, bufL_get, if_pos (by omega), if_pos (by omega), (D.lo i h).1, (D.lo i h).2]
  · rw [List.getElem?_append_right (by rw [List.length_take, bufL_len]; omega), List.length_take, bufL_len, List.getElem?_drop, bufL_get, bufL_get, show a + 1 + (i - min a (S.getD (138 + t) 0).toNat) = i + 1 by omega]
    by_cases h3 : i + 1 < (S.getD (138 + t) 0).toNat
    · rw [if_pos (by omega), if_pos h3, (D.hi i h h3).1, (D.hi i h h3).2]
    · rw [if_neg (by omega), if_neg h3]
theorem bufL_store {S T : List UInt8} {t a : Nat} {x y : UInt8} (D : Stored S T t a x y) : bufL T t (T.getD (138 + t) 0).toNat = (bufL S t (S.getD (138 + t) 0).toNat).take a ++ ⟨x, y⟩ :: (bufL S t (S.getD (138 + t) 0).toNat).drop a := by
  have h1 := D.le
  have h2 := D.own
  refine List.ext_getElem? fun i => ?_
  rcases Nat.lt_or_ge i a with h | h
  · rw [List.getElem?_append_left (by rw [List.length_take, bufL_len]; omega), List.getElem?_take, if_pos h, bufL_get, bufL_get, if_pos (by omega), if_pos (by omega), (D.lo i h).1, (D.lo i h).2]
  · rw [List.getElem?_append_right (by rw [List.length_take, bufL_len]; omega), List.length_take, bufL_len, bufL_get]
    rcases Nat.eq_or_lt_of_le h with rfl | h3
    · rw [if_pos (by omega), show a - min a (S.getD (138 + t) 0).toNat = 0 by omega, List.getElem?_cons_zero, D.put.1, D.put.2]
    · rw [show i - min a (S.getD (138 + t) 0).toNat = (i - a - 1) + 1 by omega, List.getElem?_cons_succ, List.getElem?_drop, bufL_get, show a + (i - a - 1) = i - 1 by omega]
      by_cases h4 : i < (T.getD (138 + t) 0).toNat
      · have := D.hi (i - 1) (by omega) (by omega)
        rw [show i - 1 + 1 = i by omega] at this
        rw [if_pos h4, if_pos (by omega), this.1, this.2]
      · rw [if_neg h4, if_neg (by omega)]
theorem erase_split {l : List Sto} {k : Nat} (hk : k < l.length) : l = l.take k ++ l.getD k default :: l.drop (k + 1) := by
  have e : l.getD k default = l[k] := by rw [List.getD_eq_getElem?_getD, List.getElem?_eq_getElem hk]; rfl
  rw [e, ← List.drop_eq_getElem_cons hk, List.take_append_drop]
theorem head_none {l : List Sto} {k : Nat} {c : UInt8} (hk : k ≤ l.length) (hne : ∀ i, i < k → (l.getD i default).loc ≠ c) : (l.take k).filter (fun z => z.loc == c) = [] := by
  rw [List.filter_eq_nil_iff]
  intro z hz
  obtain ⟨i, hi, rfl⟩ := List.getElem_of_mem hz
  rw [List.length_take] at hi
  have := hne i (by omega)
  rw [List.getD_eq_getElem?_getD, List.getElem?_eq_getElem (by omega : i < l.length)] at this
  rw [List.getElem_take]
  simpa using this
theorem erase_filter {l : List Sto} {k : Nat} (hk : k < l.length) (hne : ∀ i, i < k → (l.getD i default).loc ≠ (l.getD k default).loc) (c : UInt8) :
    (l.take k ++ l.drop (k + 1)).filter (fun z => z.loc == c) = if c = (l.getD k default).loc then (l.filter (fun z => z.loc == c)).tail else l.filter (fun z => z.loc == c) := by
  have hs := erase_split hk
  have e : l.filter (fun z => z.loc == c) = (l.take k).filter (fun z => z.loc == c) ++ (l.getD k default :: l.drop (k + 1)).filter (fun z => z.loc == c) := by
    rw [← List.filter_append, ← hs]
  rw [List.filter_append, e, List.filter_cons]
  by_cases h : c = (l.getD k default).loc
  · rw [if_pos h, if_pos (by simp [h])]
    have h0 := head_none (c := c) (Nat.le_of_lt hk) (by rw [h]; exact hne)
    rw [h0]
    rfl
  · rw [if_neg h, if_neg (by simp; exact fun e => h e.symm)]
theorem erase_head {l : List Sto} {k : Nat} (hk : k < l.length) (hne : ∀ i, i < k → (l.getD i default).loc ≠ (l.getD k default).loc) : (l.filter (fun z => z.loc == (l.getD k default).loc)).head? = some (l.getD k default) := by
  have hs := erase_split hk
  have e : l.filter (fun z => z.loc == (l.getD k default).loc) = (l.take k).filter (fun z => z.loc == (l.getD k default).loc) ++ (l.getD k default :: l.drop (k + 1)).filter (fun z => z.loc == (l.getD k default).loc) := by
    rw [← List.filter_append, ← hs]
  rw [e, head_none (Nat.le_of_lt hk) hne, List.filter_cons, if_pos (by simp)]
  rfl
structure OInv (mach : UInt8) (S : List UInt8) (t : Nat) (put : List Sto) (last : List UInt8) (oth : List Bool) : Prop where
  ll : last.length = 6
  lo : oth.length = 6
  tso : mach = 2 → put = bufL S t (S.getD (138 + t) 0).toNat
  flt : ∀ c, put.filter (fun z => z.loc == c) = (bufL S t (S.getD (138 + t) 0).toNat).filter (fun z => z.loc == c)
  seen : ∀ c : UInt8, c.toNat < 6 → oth.getD c.toNat false = false → last.getD c.toNat 0 = seenF S (t : Int) c
  held : ∀ u, u < 4 → u ≠ t → ∀ i, i < (S.getD (138 + u) 0).toNat → oth.getD (stL S u i).toNat false = true
theorem setB_getD {l : List Bool} {i j : Nat} {b : Bool} (hi : i < l.length) : (l.set i b).getD j false = if j = i then b else l.getD j false := by
  rw [List.getD_eq_getElem?_getD, List.getElem?_set, List.getD_eq_getElem?_getD]
  by_cases h : i = j
  · subst h; simp [hi]
  · rw [if_neg h, if_neg (fun e => h e.symm)]
section
variable {p : Prog} {mach : UInt8} {S T : List UInt8} {t : Nat} {put : List Sto} {last : List UInt8} {oth : List Bool}
theorem o_keep (hS : BValid p mach S) (hT : BValid p mach T) (ht : t < 4) (h : OInv mach S t put last oth) {oth' : List Bool} (hl : oth'.length = 6) (ho : ∀ c, oth.getD c false = true → oth'.getD c false = true)
    (hm : ∀ u, u < 4 → T.getD (138 + u) 0 = S.getD (138 + u) 0) (hb : ∀ u, u < 4 → ∀ i, i < 12 → stL T u i = stL S u i ∧ stV T u i = stV S u i)
    (hmem : ∀ c, c < 6 → oth'.getD c false = false → T.getD (36 + c) 0 = S.getD (36 + c) 0) : OInv mach T t put last oth' := by
  have hmo := (hS.most ht).1
  have hbt : bufL T t (T.getD (138 + t) 0).toNat = bufL S t (S.getD (138 + t) 0).toNat := by
    rw [hm t ht]
    exact bufL_congr fun i hi => hb t ht i (by omega)
  refine ⟨h.ll, hl, fun h2 => by rw [hbt]; exact h.tso h2, fun c => by rw [hbt]; exact h.flt c, fun c hc hf => ?_, fun u hu hne i hi => ?_⟩
  · have hf0 : oth.getD c.toNat false = false := by
      cases h0 : oth.getD c.toNat false
      · rfl
      · rw [ho _ h0] at hf; cases hf
    rw [h.seen c hc hf0, seen_eq ht hc (hS.most ht).1, seen_eq ht hc (hT.most ht).1, hm t ht, hmem _ hc hf]
    exact (seen_congr _ fun i hi => hb t ht i (by omega)).symm
  · have := (hS.most hu).1
    rw [hm u hu] at hi
    rw [(hb u hu i (by omega)).1]
    exact ho _ (h.held u hu hne i hi)
theorem o_drain_own (hS : BValid p mach S) {x : Pass} (hx : x ∈ passesF p mach S) (hd : x.drain = true) (h : OInv mach S x.thread.toNat put last oth) {k : Nat} (hk3 : mach = 3 → (∀ i, i < k → i < put.length → (put.getD i default).loc ≠ x.loc) ∧ (k < put.length → (put.getD k default).loc = x.loc)) (hk2 : mach = 2 → k = 0) (hmk : mach = 2 ∨ mach = 3)
    (hkl : k ≤ put.length) : k < put.length ∧ (doesF p mach S x).getD (36 + (put.getD k default).loc.toNat) 0 = (put.getD k default).val ∧ (put.getD k default).loc.toNat < 6 ∧ OInv mach (doesF p mach S x) x.thread.toNat (put.take k ++ put.drop (k + 1)) last oth := by
  have hpf := pass_facts hS hx
  have hT := (does_next hS hx).1
  obtain ⟨a, D, h3, h2⟩ := does_drain hS hx hd
  have hsd := fun c hc => sees_drain hS hx hd (loc := c) hc
  have ht4 := hpf.2.1
  have hlt := D.lt
  have hmo := (hS.most ht4).1
  have hla := hS.loc _ ht4 a (by omega) D.lt
  have hL := hS.ok.locs
  have hbd := bufL_drain D
  have hba : (bufL S x.thread.toNat (S.getD (138 + x.thread.toNat) 0).toNat).getD a default = ⟨stL S x.thread.toNat a, stV S x.thread.toNat a⟩ := bufL_getD hlt
  have hbne : ∀ i, i < a → ((bufL S x.thread.toNat (S.getD (138 + x.thread.toNat) 0).toNat).getD i default).loc ≠ ((bufL S x.thread.toNat (S.getD (138 + x.thread.toNat) 0).toNat).getD a default).loc := fun i hi => by
    rw [hba, bufL_getD (by omega)]
    rcases hmk with e | e
    · have := h2 (by rw [e]; decide); omega
    · have := (h3 e).2 i hi
      rw [(h3 e).1]
      exact this
  have hbl : a < (bufL S x.thread.toNat (S.getD (138 + x.thread.toNat) 0).toNat).length := by rw [bufL_len]; exact hlt
  have hbh := erase_head hbl hbne
  rw [hba] at hbh
  -- the same store in put
  have key : k < put.length ∧ put.getD k default = ⟨stL S x.thread.toNat a, stV S x.thread.toNat a⟩ ∧ (∀ i, i < k → (put.getD i default).loc ≠ (put.getD k default).loc) := by
    rcases hmk with e | e
    · have e1 := h.tso e
      have e2 := hk2 e
      have e3 := h2 (by rw [e]; decide)
      subst e2 e3
      rw [e1]
      exact ⟨by rw [bufL_len]; exact hlt, hba, fun i hi => by omega⟩
    · obtain ⟨k1, k2⟩ := hk3 e
      have e1 := h.flt x.loc
      have hk : k < put.length := by
        rcases Nat.lt_or_ge k put.length with h4 | h4
        · exact h4
        · exfalso
          have hn : put.filter (fun z => z.loc == x.loc) = [] := by
            have := head_none (l := put) (k := put.length) (c := x.loc) (Nat.le_refl _) fun i hi => k1 i (by omega) hi
            rwa [List.take_length] at this
          rw [hn] at e1
          rw [(h3 e).1, ← e1] at hbh
          cases hbh
      have hne : ∀ i, i < k → (put.getD i default).loc ≠ (put.getD k default).loc := fun i hi => by rw [k2 hk]; exact k1 i hi (by omega)
      have hph := erase_head hk hne
      rw [k2 hk, e1] at hph
      rw [(h3 e).1] at hbh
      rw [hph] at hbh
      refine ⟨hk, ?_, hne⟩
      have := Option.some.inj hbh
      rw [this, (h3 e).1]
  obtain ⟨hk, hpk, hpne⟩ := key
  refine ⟨hk, ?_, by rw [hpk]; show (stL S x.thread.toNat a).toNat < 6; omega, h.ll, h.lo, fun e => ?_, fun c => ?_, fun c hc hf => by rw [hsd c hc]; exact h.seen c hc hf, fun u hu hne i hi => ?_⟩
  · rw [hpk]
    show _ = stV S x.thread.toNat a
    rw [D.mem _ (by show (stL S x.thread.toNat a).toNat < 6; omega), if_pos rfl]
  · have e1 := h.tso e
    have e2 := hk2 e
    have e3 := h2 (by rw [e]; decide)
    subst e2 e3
    rw [hbd, e1]
  · rw [hbd, erase_filter hk hpne, erase_filter hbl hbne, hpk, hba, h.flt c]
  · rw [D.many u hu hne] at hi
    have := (hS.most hu).1
    rw [(D.buf u hu hne i (by omega)).1]
    exact h.held u hu hne i hi
theorem o_drain_other (hS : BValid p mach S) {x : Pass} (hx : x ∈ passesF p mach S) (hd : x.drain = true) (ht : t < 4) (hne : x.thread.toNat ≠ t) (h : OInv mach S t put last oth) : OInv mach (doesF p mach S x) t put last oth := by
  have hpf := pass_facts hS hx
  have hT := (does_next hS hx).1
  obtain ⟨a, D, h3, h2⟩ := does_drain hS hx hd
  have hlt := D.lt
  have hmo := (hS.most hpf.2.1).1
  have hmt := (hS.most ht).1
  have hown := D.own
  generalize doesF p mach S x = T at *
  have hbt : bufL T t (T.getD (138 + t) 0).toNat = bufL S t (S.getD (138 + t) 0).toNat := by
    rw [D.many t ht (Ne.symm hne)]
    exact bufL_congr fun i hi => D.buf t ht (Ne.symm hne) i (by omega)
  refine ⟨h.ll, h.lo, fun e => by rw [hbt]; exact h.tso e, fun c => by rw [hbt]; exact h.flt c, fun c hc hf => ?_, fun u hu hut i hi => ?_⟩
  · have hcne : c.toNat ≠ (stL S x.thread.toNat a).toNat := fun e => by
      have := h.held _ hpf.2.1 hne a hlt
      rw [← e, hf] at this
      cases this
    rw [h.seen c hc hf, seen_eq ht hc hmt, seen_eq ht hc (hT.most ht).1, D.many t ht (Ne.symm hne), D.mem _ hc, if_neg hcne]
    exact (seen_congr _ fun i hi => D.buf t ht (Ne.symm hne) i (by omega)).symm
  · by_cases e : u = x.thread.toNat
    · subst e
      rcases Nat.lt_or_ge i a with h5 | h5
      · rw [(D.lo i h5).1]; exact h.held _ hu hut i (by omega)
      · rw [(D.hi i h5 (by omega)).1]; exact h.held _ hu hut (i + 1) (by omega)
    · rw [D.many u hu e] at hi
      have := (hS.most hu).1
      rw [(D.buf u hu e i (by omega)).1]
      exact h.held u hu hut i hi
theorem o_store_own (hS : BValid p mach S) (hmk : mach = 2 ∨ mach = 3) {x : Pass} (hx : x ∈ passesF p mach S) (hd : x.drain = false) (hop : (insB p S x.thread.toNat).op = 2) (h : OInv mach S x.thread.toNat put last oth) :
    OInv mach (doesF p mach S x) x.thread.toNat (put ++ [⟨(insB p S x.thread.toNat).loc, worth (insB p S x.thread.toNat).a ((S.drop (x.thread.toNat * 9 + 1)).take 8)⟩]) (last.set (insB p S x.thread.toNat).loc.toNat (worth (insB p S x.thread.toNat).a ((S.drop (x.thread.toNat * 9 + 1)).take 8))) oth := by
  have hm1 : mach ≠ 1 := by rcases hmk with rfl | rfl <;> decide
  have hpf := pass_facts hS hx
  have D := does_store hS hx hd hop hm1
  have hss := fun c hc => sees_store hS hx hd hop hm1 (loc := c) hc
  have hks := keepPos_spec mach S x.thread.toNat (insB p S x.thread.toNat).loc (S.getD (138 + x.thread.toNat) 0).toNat
  have hk2 : mach = 2 → keepPos mach S x.thread.toNat (insB p S x.thread.toNat).loc (S.getD (138 + x.thread.toNat) 0).toNat = (S.getD (138 + x.thread.toNat) 0).toNat := fun e => by
    subst e
    cases (S.getD (138 + x.thread.toNat) 0).toNat with
    | zero => rfl
    | succ n => simp [keepPos]
  generalize keepPos mach S x.thread.toNat (insB p S x.thread.toNat).loc (S.getD (138 + x.thread.toNat) 0).toNat = a at *
  generalize worth (insB p S x.thread.toNat).a ((S.drop (x.thread.toNat * 9 + 1)).take 8) = v at *
  have hbs := bufL_store D
  have hle := D.le
  have hll := h.ll
  refine ⟨by rw [List.length_set]; exact h.ll, h.lo, fun e => ?_, fun c => ?_, fun c hc hf => ?_, fun u hu hne i hi => ?_⟩
  · rw [hbs, hk2 e, h.tso e, List.take_of_length_le (by rw [bufL_len]; exact Nat.le_refl _), List.drop_eq_nil_of_le (by rw [bufL_len]; exact Nat.le_refl _)]
  · rw [hbs, List.filter_append, List.filter_append, h.flt c, List.filter_cons, List.filter_cons, List.filter_nil]
    have e : (bufL S x.thread.toNat (S.getD (138 + x.thread.toNat) 0).toNat).filter (fun z => z.loc == c) = ((bufL S x.thread.toNat (S.getD (138 + x.thread.toNat) 0).toNat).take a).filter (fun z => z.loc == c) ++ ((bufL S x.thread.toNat (S.getD (138 + x.thread.toNat) 0).toNat).drop a).filter (fun z => z.loc == c) := by
      rw [← List.filter_append, List.take_append_drop]
    by_cases hc : (insB p S x.thread.toNat).loc = c
    · have h0 : ((bufL S x.thread.toNat (S.getD (138 + x.thread.toNat) 0).toNat).drop a).filter (fun z => z.loc == c) = [] := by
        rw [List.filter_eq_nil_iff]
        intro z hz
        obtain ⟨i, hi, rfl⟩ := List.getElem_of_mem hz
        rw [List.length_drop, bufL_len] at hi
        have h1 := (hks.1 (a + i) (by omega) (by omega)).2
        have h2 : ((bufL S x.thread.toNat (S.getD (138 + x.thread.toNat) 0).toNat).drop a)[i] = ⟨stL S x.thread.toNat (a + i), stV S x.thread.toNat (a + i)⟩ := by
          have h3 := bufL_get (S := S) (t := x.thread.toNat) (m := (S.getD (138 + x.thread.toNat) 0).toNat) (i := a + i)
          rw [if_pos (by omega), List.getElem?_eq_getElem (by rw [bufL_len]; omega)] at h3
          rw [List.getElem_drop]
          exact Option.some.inj h3
        rw [h2]
        have h4 : stL S x.thread.toNat (a + i) ≠ c := fun e => by rw [← hc] at e; rw [e] at h1; omega
        simpa using h4
      rw [e, h0, List.append_nil]
      try simp [hc]
    · rw [e]
      simp [hc]
  · rw [hss c hc]
    by_cases hcl : (insB p S x.thread.toNat).loc = c
    · rw [if_pos hcl, set_getD _ _ _ _ (by rw [hcl]; omega), if_pos (by rw [hcl])]
    · have hn : c.toNat ≠ (insB p S x.thread.toNat).loc.toNat := fun e => hcl (UInt8.toNat_inj.1 e.symm)
      have hL := hS.ok.loc hpf.1 (hpf.2.2.1 hd)
      have hLc := hS.ok.locs
      rw [if_neg hcl, set_getD _ _ _ _ (by unfold insB; omega), if_neg hn]
      exact h.seen c hc hf
  · rw [D.many u hu hne] at hi
    have := (hS.most hu).1
    rw [(D.buf u hu hne i (by omega)).1]
    exact h.held u hu hne i hi
theorem o_store_other (hS : BValid p mach S) (hmk : mach = 2 ∨ mach = 3) {x : Pass} (hx : x ∈ passesF p mach S) (hd : x.drain = false) (hop : (insB p S x.thread.toNat).op = 2) (ht : t < 4) (hne : x.thread.toNat ≠ t) (h : OInv mach S t put last oth) :
    OInv mach (doesF p mach S x) t put last (oth.set (insB p S x.thread.toNat).loc.toNat true) := by
  have hm1 : mach ≠ 1 := by rcases hmk with rfl | rfl <;> decide
  have hpf := pass_facts hS hx
  have hT := (does_next hS hx).1
  have D := does_store hS hx hd hop hm1
  have hL := hS.ok.loc hpf.1 (hpf.2.2.1 hd)
  have hLc := hS.ok.locs
  have hl6 : (insB p S x.thread.toNat).loc.toNat < 6 := by unfold insB; omega
  have hso := fun c hc => sees_other hS hx hd hop hm1 (loc := c) hc ht (Ne.symm hne)
  generalize keepPos mach S x.thread.toNat (insB p S x.thread.toNat).loc (S.getD (138 + x.thread.toNat) 0).toNat = a at *
  have hmt := (hS.most ht).1
  have hlo := h.lo
  have hown := D.own
  have hle := D.le
  have hmx := (hS.most hpf.2.1).1
  generalize doesF p mach S x = T at *
  have hbt : bufL T t (T.getD (138 + t) 0).toNat = bufL S t (S.getD (138 + t) 0).toNat := by
    rw [D.many t ht (Ne.symm hne)]
    exact bufL_congr fun i hi => D.buf t ht (Ne.symm hne) i (by omega)
  have hkeep : ∀ c, oth.getD c false = true → (oth.set (insB p S x.thread.toNat).loc.toNat true).getD c false = true := fun c hc => by
    rw [setB_getD (by omega)]
    split
    · rfl
    · exact hc
  refine ⟨h.ll, by rw [List.length_set]; exact h.lo, fun e => by rw [hbt]; exact h.tso e, fun c => by rw [hbt]; exact h.flt c, fun c hc hf => ?_, fun u hu hut i hi => ?_⟩
  · rw [hso c hc]
    refine h.seen c hc ?_
    cases h0 : oth.getD c.toNat false
    · rfl
    · rw [hkeep _ h0] at hf; cases hf
  · by_cases e : u = x.thread.toNat
    · subst e
      rcases Nat.lt_or_ge i a with h5 | h5
      · rw [(D.lo i h5).1]; exact hkeep _ (h.held _ hu hut i (by omega))
      · rcases Nat.eq_or_lt_of_le h5 with rfl | h6
        · rw [D.put.1, setB_getD (by omega), if_pos rfl]
        · have := D.hi (i - 1) (by omega) (by omega)
          rw [show i - 1 + 1 = i by omega] at this
          rw [this.1]
          exact hkeep _ (h.held _ hu hut (i - 1) (by omega))
    · rw [D.many u hu e] at hi
      have := (hS.most hu).1
      rw [(D.buf u hu e i (by omega)).1]
      exact hkeep _ (h.held u hu hut i hi)
end

end Go.Proofs.YtimonjemjhecoaaGreatDoor
