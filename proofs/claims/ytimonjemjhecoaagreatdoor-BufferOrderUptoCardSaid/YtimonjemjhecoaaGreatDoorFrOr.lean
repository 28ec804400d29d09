/- Walks, printed by a program of this repository (wip/tool). -/
import Derived.Test.YtimonjemjhecoaaGreatDoorOrC
import Derived.Test.YtimonjemjhecoaaGreatDoorBOr
import Derived.Test.YtimonjemjhecoaaGreatDoorFrC
import Derived.Test.YtimonjemjhecoaaGreatDoorCards
import Derived.Test.YtimonjemjhecoaaGreatDoorTie
import Derived.SevenTiedAt
namespace Go.Proofs.YtimonjemjhecoaaGreatDoor
open Go.RowKit
open Go
attribute [local irreducible] wpList wpQuiet wpX Code.wp
set_option maxHeartbeats 1000000
set_option maxRecDepth 100000
set_option linter.unusedSimpArgs false
set_option linter.unusedVariables false


theorem order_find (p : Prog) (pso : Bool) (mach : UInt8) (t : Nat) (put : List Sto) (last : List UInt8) (oth mine : List Bool) (S : List UInt8) (x : Pass) (rc : List Sto × List UInt8 × List Bool × List Bool × List UInt8 → Bool) :
    ∀ (f k : Nat), k ≤ put.length → put.length < k + f → ((pso = true → ∀ i, i < k → (put.getD i default).loc ≠ x.loc) ∧ (pso = false → k = 0)) → ∃ a, a ≤ put.length ∧ (pso = true → (∀ i, i < a → i < put.length → (put.getD i default).loc ≠ x.loc) ∧ (a < put.length → (put.getD a default).loc = x.loc)) ∧ (pso = false → a = 0) ∧
      loopF (orderF_f p pso mach t put last oth mine S x rc) f k = (bif ((((bMoveF p mach S x).2 != (0 : Int)) || ((a : Int) == (put.length : Int))) || ((bMoveF p mach S x).1.getD (36 + ((put.getD a default).loc).toNat) 0 != (put.getD a default).val)) then false else orderF_d p mach t last oth mine S x rc (put.take a ++ put.drop (a + 1)))
  | 0, k, h1, h2, _ => by omega
  | f + 1, k, h1, h2, h3 => by
    have ih := order_find p pso mach t put last oth mine S x rc f (k + 1)
    show ∃ a, _ ∧ _ ∧ _ ∧ orderF_f p pso mach t put last oth mine S x rc (loopF (orderF_f p pso mach t put last oth mine S x rc) f) k = _
    generalize loopF (orderF_f p pso mach t put last oth mine S x rc) f = R at ih ⊢
    unfold orderF_f
    simp only
    cases hc : ((decide ((k : Int) < (put.length : Int)) && pso) && ((put.getD k default).loc != x.loc))
    · refine ⟨k, h1, fun hp => ⟨fun i hi _ => h3.1 hp i hi, fun hk => ?_⟩, h3.2, rfl⟩
      rw [decide_eq_true (show (k : Int) < (put.length : Int) by omega), hp, Bool.true_and, Bool.true_and] at hc
      simpa using hc
    · rw [cond_true]
      rw [Bool.and_eq_true, Bool.and_eq_true, decide_eq_true_iff, bne_iff_ne] at hc
      obtain ⟨⟨hk, hp⟩, hne⟩ := hc
      exact ih (by omega) (by omega) ⟨fun _ i hi => by
        rcases Nat.lt_or_ge i k with h5 | h5
        · exact h3.1 hp i h5
        · rw [show i = k by omega]; exact hne, fun h => by rw [hp] at h; cases h⟩
theorem rmw_iff (op : UInt8) : (decide ((4 : UInt8) ≤ op) && decide (op ≤ 6)) = true ↔ op = 4 ∨ op = 5 ∨ op = 6 := by
  rw [Bool.and_eq_true, decide_eq_true_iff, decide_eq_true_iff, UInt8.le_iff_toNat_le, UInt8.le_iff_toNat_le]
  have z4 : (4 : UInt8).toNat = 4 := rfl
  have z5 : (5 : UInt8).toNat = 5 := rfl
  have z6 : (6 : UInt8).toNat = 6 := rfl
  simp only [← UInt8.toNat_inj]
  omega
section
variable {p : Prog} {pso : Bool} {mach : UInt8} {S : List UInt8} {x : Pass} {put : List Sto} {last : List UInt8} {oth mine : List Bool} {rc : List Sto × List UInt8 × List Bool × List Bool × List UInt8 → Bool} {t : Nat}
theorem order_g_own (hv : BValid p mach S) (hx : x ∈ passesF p mach S) (hd : x.drain = false) (he : x.thread.toNat = t) (hr : (insB p S t).op = 4 ∨ (insB p S t).op = 5 ∨ (insB p S t).op = 6) :
    orderF_g p mach t S x rc mine last put oth = rc (put, last.set (insB p S t).loc.toNat ((doesF p mach S x).getD (36 + (insB p S t).loc.toNat) 0), oth, mine, doesF p mach S x) := by
  have eT : (p.threads.l.getD t default).l.getD (S.getD (t * 9) 0).toNat default = insB p S t := rfl
  unfold orderF_g
  rw [bmove_in hv hx, eT, (rmw_iff _).2 hr, hd, he]
  simp
theorem order_g_not (hv : BValid p mach S) (hx : x ∈ passesF p mach S) (h : x.drain = true ∨ x.thread.toNat ≠ t ∨ ¬ ((insB p S t).op = 4 ∨ (insB p S t).op = 5 ∨ (insB p S t).op = 6)) :
    orderF_g p mach t S x rc mine last put oth = rc (put, last, oth, mine, doesF p mach S x) := by
  have eT : (p.threads.l.getD t default).l.getD (S.getD (t * 9) 0).toNat default = insB p S t := rfl
  unfold orderF_g
  rw [bmove_in hv hx, eT]
  simp only [bne_self_eq_false, cond_false]
  rcases h with h | h | h
  · rw [h]; rfl
  · rw [beq_eq_false_iff_ne.2 (show ((x.thread.toNat : Int) ≠ (t : Int)) by omega), Bool.and_false]; rfl
  · rw [Bool.eq_false_iff.2 (fun e => h ((rmw_iff _).1 e))]
    cases (!x.drain && ((x.thread.toNat : Int) == (t : Int))) <;> rfl
theorem order_d_drain (hd : x.drain = true) : orderF_d p mach t last oth mine S x rc put = orderF_g p mach t S x rc mine last put oth := by
  unfold orderF_d
  rw [hd]
  rfl
theorem order_d_store (hd : x.drain = false) (he : x.thread.toNat = t) (ho : (insB p S t).op = 2) :
    orderF_d p mach t last oth mine S x rc put = orderF_g p mach t S x rc (mine.set (insB p S t).loc.toNat true) (last.set (insB p S t).loc.toNat (worth (insB p S t).a ((S.drop (t * 9 + 1)).take 8))) (put ++ [⟨(insB p S t).loc, worth (insB p S t).a ((S.drop (t * 9 + 1)).take 8)⟩]) oth := by
  have eT : (p.threads.l.getD t default).l.getD (S.getD (t * 9) 0).toNat default = insB p S t := rfl
  unfold orderF_d
  rw [he, eT, hd, ho, beq_self_eq_true]
  rfl
theorem order_d_other (hd : x.drain = false) (he : x.thread.toNat ≠ t) (ho : (insB p S x.thread.toNat).op = 2 ∨ (insB p S x.thread.toNat).op = 4 ∨ (insB p S x.thread.toNat).op = 5 ∨ (insB p S x.thread.toNat).op = 6) :
    orderF_d p mach t last oth mine S x rc put = orderF_g p mach t S x rc mine last put (oth.set (insB p S x.thread.toNat).loc.toNat true) := by
  have eT : (p.threads.l.getD x.thread.toNat default).l.getD (S.getD (x.thread.toNat * 9) 0).toNat default = insB p S x.thread.toNat := rfl
  unfold orderF_d
  rw [eT, hd, beq_eq_false_iff_ne.2 (show ((x.thread.toNat : Int) ≠ (t : Int)) by omega), bne_iff_ne.2 (show ((x.thread.toNat : Int) ≠ (t : Int)) by omega)]
  rcases ho with h | h
  · rw [h]; rfl
  · rw [(rmw_iff _).2 h, Bool.or_true]; rfl
theorem order_d_rest (hd : x.drain = false) (ho : (insB p S x.thread.toNat).op ≠ 2) (h : x.thread.toNat = t ∨ ¬ ((insB p S x.thread.toNat).op = 4 ∨ (insB p S x.thread.toNat).op = 5 ∨ (insB p S x.thread.toNat).op = 6)) :
    orderF_d p mach t last oth mine S x rc put = orderF_g p mach t S x rc mine last put oth := by
  have eT : (p.threads.l.getD x.thread.toNat default).l.getD (S.getD (x.thread.toNat * 9) 0).toNat default = insB p S x.thread.toNat := rfl
  unfold orderF_d
  rw [eT, hd, beq_eq_false_iff_ne.2 ho, Bool.and_false, Bool.false_or]
  simp only [Bool.not_false, cond_true, cond_false]
  rcases h with h | h
  · rw [show ((x.thread.toNat : Int) != (t : Int)) = false by rw [h]; exact bne_self_eq_false _, Bool.and_false]; rfl
  · rw [Bool.eq_false_iff.2 (fun e => h ((rmw_iff _).1 e))]; rfl
theorem order_step (hmp : mach = if pso then 3 else 2) (hv : BValid p mach S) (hx : x ∈ passesF p mach S)
    (ht4 : t < 4) (hm6 : mine.length = 6) (hi : OInv mach S t put last oth) (rc : List Sto × List UInt8 × List Bool × List Bool × List UInt8 → Bool) :
    ∃ put' last' oth' mine', mine'.length = 6 ∧ OInv mach (doesF p mach S x) t put' last' oth' ∧ orderF_c p pso mach t x rc (put, last, oth, mine, S) = rc (put', last', oth', mine', doesF p mach S x) := by
  have hmk : mach = 2 ∨ mach = 3 := by cases pso <;> simp [hmp]
  have hpf := pass_facts hv hx
  unfold orderF_c orderF_v80
  simp only
  cases hd : x.drain
  · rw [Bool.and_false, cond_false]
    by_cases he : x.thread.toNat = t
    · by_cases ho : (insB p S t).op = 2
      · have hnr : ¬ ((insB p S t).op = 4 ∨ (insB p S t).op = 5 ∨ (insB p S t).op = 6) := by rw [ho]; decide
        refine ⟨_, _, _, _, ?_, ?_, (order_d_store hd he ho).trans (order_g_not hv hx (.inr (.inr hnr)))⟩
        · rw [List.length_set]; exact hm6
        · subst he
          exact o_store_own hv hmk hx hd ho hi
      · by_cases hr : (insB p S t).op = 4 ∨ (insB p S t).op = 5 ∨ (insB p S t).op = 6
        · refine ⟨_, _, _, _, hm6, ?_, (order_d_rest hd (by rw [he]; exact ho) (.inl he)).trans (order_g_own hv hx hd he hr)⟩
          subst he
          exact o_rmw_own hv hmk hx hd hr hi
        · exact ⟨_, _, _, _, hm6, o_quiet hv hmk hx hd ht4 (by rw [he]; exact ho) (by rw [he]; exact hr) hi, (order_d_rest hd (by rw [he]; exact ho) (.inl he)).trans (order_g_not hv hx (.inr (.inr hr)))⟩
    · by_cases ho : (insB p S x.thread.toNat).op = 2
      · exact ⟨_, _, _, _, hm6, o_store_other hv hmk hx hd ho ht4 he hi, (order_d_other hd he (.inl ho)).trans (order_g_not hv hx (.inr (.inl he)))⟩
      · by_cases hr : (insB p S x.thread.toNat).op = 4 ∨ (insB p S x.thread.toNat).op = 5 ∨ (insB p S x.thread.toNat).op = 6
        · exact ⟨_, _, _, _, hm6, o_rmw_other hv hmk hx hd ht4 ho hi, (order_d_other hd he (.inr hr)).trans (order_g_not hv hx (.inr (.inl he)))⟩
        · exact ⟨_, _, _, _, hm6, o_quiet hv hmk hx hd ht4 ho hr hi, (order_d_rest hd ho (.inr hr)).trans (order_g_not hv hx (.inr (.inl he)))⟩
  · rw [Bool.and_true]
    by_cases he : x.thread.toNat = t
    · rw [beq_iff_eq.2 (show ((x.thread.toNat : Int) = (t : Int)) by omega), cond_true]
      obtain ⟨a, h1, h2, h3, h4⟩ := order_find p pso mach t put last oth mine S x rc (put.length + 1) 0 (Nat.zero_le _) (by omega) ⟨fun _ i h => absurd h (Nat.not_lt_zero _), fun _ => rfl⟩
      rw [h4, bmove_in hv hx]
      subst he
      obtain ⟨k1, k2, k3, k4⟩ := o_drain_own hv hx hd hi (k := a) (fun e => h2 (by cases pso <;> simp_all)) (fun e => h3 (by cases pso <;> simp_all)) hmk h1
      rw [k2, beq_eq_false_iff_ne.2 (show (a : Int) ≠ (put.length : Int) by omega)]
      simp only [bne_self_eq_false, Bool.or_false, cond_false]
      exact ⟨_, _, _, _, hm6, k4, (order_d_drain hd).trans (order_g_not hv hx (.inl hd))⟩
    · rw [beq_eq_false_iff_ne.2 (show ((x.thread.toNat : Int) ≠ (t : Int)) by omega), cond_false]
      exact ⟨_, _, _, _, hm6, o_drain_other hv hx hd ht4 he hi, (order_d_drain hd).trans (order_g_not hv hx (.inl hd))⟩
end
theorem order_run {p : Prog} {pso : Bool} {mach : UInt8} {t : Nat} (ht4 : t < 4) (hmp : mach = if pso then 3 else 2) (K : List Sto × List UInt8 × List Bool × List Bool × List UInt8 → Bool) {S T : List UInt8} {l : List Pass} (r : BRun p mach S l T) : BValid p mach S →
    ∀ put last oth mine, mine.length = 6 → OInv mach S t put last oth →
    ∃ put' last' oth' mine', OInv mach T t put' last' oth' ∧ loopL (orderF_c p pso mach t) K l (put, last, oth, mine, S) = K (put', last', oth', mine', T) := by
  induction r with
  | nil => intro _ put last oth mine _ hi; exact ⟨_, _, _, _, hi, rfl⟩
  | cons h r ih =>
    rename_i S x l T
    intro hv put last oth mine hm hi
    obtain ⟨put1, last1, oth1, mine1, h1, h2, h3⟩ := order_step hmp hv h ht4 hm hi (loopL (orderF_c p pso mach t) K l)
    obtain ⟨put2, last2, oth2, mine2, h4, h5⟩ := ih (does_next hv h).1 put1 last1 oth1 mine1 h1 h2
    exact ⟨put2, last2, oth2, mine2, h4, h3.trans h5⟩
theorem order_locs {p : Prog} {mach : UInt8} {picks last F : List UInt8} {oth mine : List Bool} (hF : (bPlayF p mach (picks.take (min picks.length 100))).1 = F) (n : Nat) (hn : n ≤ 6) (h : ∀ c, c < 6 → oth.getD c false = false → last.getD c 0 = F.getD (32 + c) 0) (K : Nat → Bool) (k0 : Bool) (hK : ∀ k, K k = k0) :
    ∀ (l : List ByteArray) (d : Nat), d + l.length = n → loopL (orderF_i p picks mach last oth mine) K l d = k0
  | [], d, _ => hK d
  | y :: l, d, e => by
    have ih := order_locs (mine := mine) hF n hn h K k0 hK l (d + 1) (by rw [List.length_cons] at e; omega)
    rw [List.length_cons] at e
    show orderF_i p picks mach last oth mine y (loopL (orderF_i p picks mach last oth mine) K l) d = _
    unfold orderF_i at ih ⊢
    simp only at ih ⊢
    rw [hF] at ih ⊢
    cases ho : oth.getD d false
    · rw [h d (by omega) ho, bne_self_eq_false, Bool.and_false, cond_false]
      exact ih
    · rw [Bool.not_true, Bool.and_false, Bool.false_and, cond_false]
      exact ih
theorem order_b {p : Prog} {pso : Bool} {mach : UInt8} (hmp : mach = if pso then 3 else 2) (picks : List UInt8) (which : UInt8) : orderF_b p pso picks which mach = true := by
  have hk : mach = 1 ∨ mach = 2 ∨ mach = 3 := by cases pso <;> simp [hmp]
  unfold orderF_b
  by_cases hr : rightF p = 0
  · obtain ⟨l, T, r, h1, h2⟩ := bplay_eq hr hk (picks.take (min picks.length 100))
    have hv := start_bvalid hr hk
    obtain ⟨h0, hz⟩ := start_valid hr
    have hth := hv.ok.threads
    have hlc := hv.ok.locs
    have ht4 : which.toNat % p.threads.l.length < 4 := by have := Nat.mod_lt which.toNat hth.1; omega
    rw [h0, h2, show (((finalF T, l, (0 : Int)).2.2 != 0) || ((0 : Int) != 0)) = false by rfl, cond_false]
    have hS := hv.len
    have hmz : ∀ u, u < 4 → (startF p).1.getD (138 + u) 0 = 0 := fun u hu => hz.rest _ (by omega) (by omega)
    have hi0 : OInv mach (startF p).1 (which.toNat % p.threads.l.length) [] (((startF p).1.drop 36).take 6) (List.replicate 6 false) := by
      refine ⟨by simp only [List.length_take, List.length_drop]; omega, rfl, fun _ => by rw [hmz _ ht4]; rfl, fun c => by rw [hmz _ ht4]; rfl, fun c hc _ => ?_, fun u hu _ i hi => ?_⟩
      · rw [sub_getD _ _ _ _ hc, sees_mem hv hc ht4 (hmz _ ht4)]
      · rw [hmz u hu] at hi; exact absurd hi (Nat.not_lt_zero _)
    obtain ⟨put, last, oth, mine, hi, e⟩ := order_run ht4 hmp (orderF_ck p picks mach) r hv _ _ _ (List.replicate 6 false) rfl hi0
    unfold orderF_v72
    rw [h2]
    refine e.trans ?_
    have hT := r.valid hv
    obtain ⟨hp0, hse⟩ := o_end hT h1 ht4 hi
    unfold orderF_ck
    simp only
    refine order_locs (F := finalF T) (by rw [h2]) p.locs.l.length (by omega) (fun c hc ho => by rw [hse c hc ho, final_mem hT.len hc]) _ true (fun k => ?_) p.locs.l 0 (by omega)
    rw [hp0]
    rfl
  · rw [bplay_no hr, start_no hr]
    have : (rightF p != 0) = true := bne_iff_ne.2 hr
    rw [this]
    rfl
theorem order_true (p : Prog) (pso : Bool) (picks : List UInt8) (which : UInt8) : orderF p pso picks which = true := by
  unfold orderF orderF_a
  cases pso
  · show orderF_b p false picks which 2 = true
    exact order_b (pso := false) (mach := 2) rfl picks which
  · show orderF_b p true picks which 3 = true
    exact order_b (pso := true) (mach := 3) rfl picks which

end Go.Proofs.YtimonjemjhecoaaGreatDoor

namespace Go.Proofs.YtimonjemjhecoaaGreatDoor
open Go.RowKit
open Go
attribute [local irreducible] wpList wpQuiet wpX Code.wp
set_option maxHeartbeats 1000000
set_option maxRecDepth 100000
set_option linter.unusedSimpArgs false
set_option linter.unusedVariables false

theorem order_law (p : Prog) (pso : Bool) (picks : Sl UInt8) (which : UInt8) (w : World) (hp : IsProg p w) (hpicks : SlIn 1 eByte picks w) (hg : Glob w) :
    Calls Tryz.prog 4 #[.agg p.cells.toArray, .bool pso, picks.val, bv which] w fun e w' => e = .returned (.bool true) ∧ Ext w w' := by
  have h := orderF_spec p pso picks which w hp hpicks hg
  rw [order_true] at h
  exact h


open Go.ChangeShapes Go.WideShapes Go.ChangeAt Go.WideMaps Go.WideElems Go.RowKit
theorem bufferOrder_contract (H : Type) (enc : TypeId × Value → H) (W : World) (base : Nat) (args : Array Value) (ds gs : List (DataW H)) (before : List MemPlace)
    (hval : ∀ (j : Nat) t v, Tryz.f4.params[j]? = some t → args[j]? = some v → Value.okWide Tryz.prog W .any base t v)
    (hW : DataW.Whole enc Tryz.prog Tryz.f4.params.toList Rows.bufferOrderSpec.vars false W args.toList ds gs before) (hk : Rows.uptoSmall H (ds ++ gs) = true) (hL : laidMetH Tryz.prog laids W) :
    Calls Tryz.prog 4 args W fun e W' => ∃ v, e = .returned v ∧ Rows.bufferOrderSpec.post enc Tryz.prog Tryz.f4 false true false false W args v W' := by
  have hW' := hW
  have hb := bulk_of hk
  obtain ⟨p, q, hA0, hV, rfl, _, _⟩ := hW
  have hA : DataW.TrodAll enc Tryz.prog W 0 (fun _ => true) true Tryz.f4.params.toList args.toList ds p := hA0
  rw [Tryz.params4] at hA hval
  obtain ⟨v0, vs0, d0, ds0, p0, q0, e0, rfl, rfl, h0, r0⟩ := trodAll_cons hA
  obtain ⟨v1, vs1, d1, ds1, p1, q1, e1, rfl, rfl, h1, r1⟩ := trodAll_cons r0
  obtain ⟨v2, vs2, d2, ds2, p2, q2, e2, rfl, rfl, h2, r2⟩ := trodAll_cons r1
  obtain ⟨v3, vs3, d3, ds3, p3, q3, e3, rfl, rfl, h3, r3⟩ := trodAll_cons r2
  obtain ⟨z1, z2, z3⟩ := trodAll_nil r3
  obtain ⟨rfl, rfl⟩ := trodVars_none hV
  subst z2
  obtain rfl : args = #[v0, v1, v2, v3] := by cases args; simp_all
  simp only [List.append_nil, Rows.uptoBulkAll] at hb
  clear hA0
  obtain ⟨n0, g0⟩ := h0
  obtain ⟨a0, hc0, hp0⟩ := open_prog g0 (show Rows.uptoBulk d0 ≤ 1048576 by omega)
  obtain rfl := agg_of Tryz.underlying29 (hval 0 29 v0 rfl rfl) hc0
  obtain ⟨a1, rfl⟩ := bool_arg Tryz.underlying4 (hval 1 4 v1 rfl rfl) h1
  obtain ⟨n2, g2⟩ := h2
  obtain ⟨a2, hc2, hp2⟩ := open_bytes g2 (show Rows.uptoBulk d2 ≤ 1048576 by omega)
  obtain rfl := slice_of Tryz.underlying23 (hval 2 23 v2 rfl rfl) hc2
  obtain ⟨a3, rfl⟩ := u8_arg Tryz.underlying5 (hval 3 5 v3 rfl rfl) h3
  refine (order_law a0 a1 a2 a3 W hp0 hp2 (glob_of_laid hL)).mono fun e W' ⟨he, hw⟩ => ?_
  subst he
  exact ⟨_, rfl, law_post laidOut rfl Tryz.underlying4 rfl (by
    intro t ht
    rw [Tryz.params4] at ht
    have hm : t ∈ [29, 4, 23, 5] := by simp at ht ⊢; omega
    have hall : ([29, 4, 23, 5].all fun u => Tryz.prog.readableRec u && decide (u < Tryz.prog.types.size)) = true := by kernel_rfl
    have := List.all_eq_true.1 hall t hm
    simpa using this) (fun ds h => by
    rw [Tryz.params4] at h
    match ds, h with
    | [x0, x1, x2, x3], _ => rfl) hW' hw⟩
theorem bufferOrder_reads (os : Os) {H : Type} (enc : TypeId × Value → H) : ∃ x, DataW.whole enc Tryz.prog ((World.doorLaid Tryz.prog 400 os).forCall (fun _ _ => 0) ⟨#[], #[.agg #[.string ⟨#[]⟩, .slice none 0 0, .slice none 0 0, .slice none 0 0, .int .u8 0, .int .u8 0, .int .u8 0, .int .u8 0, .int .u8 0, .slice none 0 0], .bool false, .slice none 0 0, .int .u8 0], []⟩).memory Tryz.f4.params.toList Rows.bufferOrderSpec.vars false (#[.agg #[.string ⟨#[]⟩, .slice none 0 0, .slice none 0 0, .slice none 0 0, .int .u8 0, .int .u8 0, .int .u8 0, .int .u8 0, .int .u8 0, .slice none 0 0], .bool false, .slice none 0 0, .int .u8 0] : Array Value).toList 8 = some ([.agg [.lit (.string []), .nil, .nil, .nil, .lit (.int .u8 0), .agg [.lit (.int .u8 0), .lit (.int .u8 0), .lit (.int .u8 0), .lit (.int .u8 0), .nil]], .lit (.bool false), .nil, .lit (.int .u8 0)], [], x) :=
  ⟨[], by kernel_rfl⟩
theorem bufferOrder_lifted (os : Os) (started : os.Started) (H : Type) (enc : TypeId × Value → H) (F : Stop.Interp) :
    ReturnsInHanded {} Tryz.checked os 4 .any ((Rows.OpenSpec.upto Rows.bufferOrderSpec).preRow enc Tryz.prog Tryz.f4 Rows.bufferOrderUptoRow.domain false Rows.bufferOrderUptoRow.laid) (((Rows.OpenSpec.upto Rows.bufferOrderSpec).at F).post enc Tryz.prog Tryz.f4 false true false false) := by
  obtain ⟨x, hx⟩ := bufferOrder_reads os enc
  refine returnsInHanded_of_row (C := Tryz.checked) (s := Rows.OpenSpec.upto Rows.bufferOrderSpec) own started (by kernel_rfl) Tryz.func4
    (witness_row_atRef (enc := enc) (C := Tryz.checked) false (World.doorLaid Tryz.prog 400 os) #[.agg #[.string ⟨#[]⟩, .slice none 0 0, .slice none 0 0, .slice none 0 0, .int .u8 0, .int .u8 0, .int .u8 0, .int .u8 0, .int .u8 0, .slice none 0 0], .bool false, .slice none 0 0, .int .u8 0] rfl (by kernel_rfl) (by kernel_rfl) (by kernel_rfl)
      (OpenSpec.preRow_of_cond 8 hx (by kernel_rfl) (fun k hk => by cases hk; kernel_rfl) (by kernel_rfl) (door_met os _))) ?_
  intro W base args ds gs before hval hW _ hk _ hL _ _
  exact bufferOrder_contract H enc W base args ds gs before hval hW (hk _ rfl) hL
theorem bufferOrder_said : Rows.BufferOrderUptoSaid :=
  OpenClaim.holds_of_cond 4 Tryz.f4 rfl rfl rfl rfl rfl rfl rfl ⟨rfl, rfl, rfl, rfl, rfl⟩ rfl rfl rfl rfl rfl (by kernel_rfl) Tryz.func4 (by kernel_rfl)
    (of_decide_eq_true (by kernel_rfl)) (by unfold Func.isWrapper; first | (rw [if_pos (by decide +kernel)]; kernel_rfl) | (rw [if_neg (by decide +kernel)]; exact ⟨rfl, rfl⟩))
    (fun os started H enc _ F => by rw [OpenClaim.pre_eq_preRow]; exact bufferOrder_lifted os started H enc F)
theorem bufferOrder_card : Rows.BufferOrderUptoCardSaid :=
  Claim7.holds_tied_plain_at .later [] _ _ _ _ bufferOrder_said (fun _ h => by cases h) (by kernel_rfl) (fun _ h => by cases h) bufferOrderUpto_row_tie rfl ⟨rfl, rfl⟩ (by kernel_rfl) rfl
    (fun f fn hf hfn => by
      obtain rfl : f = 4 := Option.some.inj ((show Tryz.prog.funcNamed "seisin/seisinlaw14.BufferOrder" = some 4 by kernel_rfl).symm.trans hf) |>.symm
      obtain rfl : fn = Tryz.f4 := (Option.some.inj (Tryz.func4.symm.trans hfn)).symm
      exact ⟨by kernel_rfl, fun j t ht => by
        rw [Tryz.params4] at ht
        have hm : t ∈ [29, 4, 23, 5] := by simpa using Array.mem_of_getElem? ht
        have hall : ([29, 4, 23, 5].all fun u => !Tryz.prog.wantsStandIn u) = true := by kernel_rfl
        exact (show Tryz.prog.wantsStandIn t = false by simpa using List.all_eq_true.1 hall t hm)⟩)
    (by kernel_rfl)

end Go.Proofs.YtimonjemjhecoaaGreatDoor
