/- Walks, printed by a program of this repository (wip/tool). -/
import Derived.Test.YtimonjemjhecoaaGreatDoorOrB
namespace Go.Proofs.YtimonjemjhecoaaGreatDoor
open Go.RowKit
open Go
attribute [local irreducible] wpList wpQuiet wpX Code.wp
set_option maxHeartbeats 1000000
set_option maxRecDepth 100000
set_option linter.unusedSimpArgs false
set_option linter.unusedVariables false

theorem pass_may {p : Prog} {mach : UInt8} {S : List UInt8} {x : Pass} (hv : BValid p mach S) (hx : x ∈ passesF p mach S) (hd : x.drain = false) : bMayF p mach S x.thread.toNat = true := by
  have h4 := hv.ok.threads
  obtain ⟨t, ht, ⟨h1, rfl⟩ | ⟨k, hk, hc, rfl⟩⟩ := passes_mem.1 hx
  · have hU := thU_nat (show t < 256 by omega)
    show bMayF p mach S (thU t).toNat = true
    rw [hU]
    exact h1
  · cases hd

section
variable {p : Prog} {mach : UInt8} {S T : List UInt8} {t : Nat} {put : List Sto} {last : List UInt8} {oth : List Bool}
theorem rest_cells (hS : BValid p mach S) (hmk : mach = 2 ∨ mach = 3) {x : Pass} (hx : x ∈ passesF p mach S) (hd : x.drain = false) (hop : (insB p S x.thread.toNat).op ≠ 2) :
    (∀ j, 42 ≤ j → (doesF p mach S x).getD j 0 = S.getD j 0) ∧ (∀ c, c < 6 → ((insB p S x.thread.toNat).op = 4 ∨ (insB p S x.thread.toNat).op = 5 ∨ (insB p S x.thread.toNat).op = 6 → c ≠ (insB p S x.thread.toNat).loc.toNat) → (doesF p mach S x).getD (36 + c) 0 = S.getD (36 + c) 0) := by
  have hpf := pass_facts hS hx
  have hpc := hpf.2.2.1 hd
  have hl := hS.ok.loc hpf.1 hpc
  have hat := hS.ok.at hpf.1 hpc
  have hL := hS.ok.locs
  have h4 := hpf.2.1
  have hSl := hS.len
  have hl6 : (insB p S x.thread.toNat).loc.toNat < 6 := by unfold insB; omega
  by_cases h1 : (insB p S x.thread.toNat).op = 1
  · have g1 := does_load hS hx hd h1
    have hdst : (insB p S x.thread.toNat).dst.toNat < 8 := UInt8.lt_iff_toNat_lt.1 hat.2.dst
    exact ⟨fun j hj => by rw [g1, if_neg (by omega), if_neg (by omega)], fun c hc _ => by rw [g1, if_neg (by omega), if_neg (by omega)]⟩
  · have g1 := does_other hS hx hd h1 (fun h => absurd h hop)
    have hbl := bare_len hSl
    have hb : ∀ j, j < 42 → (bareOf S).getD j 0 = S.getD j 0 := fun j hj => by rw [bare_getD hSl, if_neg (by omega)]
    have eb : insAt p x.thread.toNat (pcOf (bareOf S) x.thread.toNat).toNat = insB p S x.thread.toNat := by
      show insAt p x.thread.toNat ((bareOf S).getD (x.thread.toNat * 9) 0).toNat = _
      rw [hb _ (by omega)]
      rfl
    have g2 := fun j => goes_getD (p := p) (j := j) hbl h4 (by rw [eb]; exact hl6)
    refine ⟨fun j hj => ?_, fun c hc hn => ?_⟩
    · rw [g1]
      split
      · rfl
      · rw [g2, if_neg (by omega), if_neg (by rw [eb]; omega), bare_getD hSl, if_neg (by omega)]
    · rw [g1, if_neg (by omega), g2, if_neg (by omega), eb]
      split
      · rename_i hc2
        have hst : stillP (insB p S x.thread.toNat) := by
          have h5 := hat.2.op
          change (insB p S x.thread.toNat).op = 1 ∨ (insB p S x.thread.toNat).op = 2 ∨ (insB p S x.thread.toNat).op = 3 ∨ (insB p S x.thread.toNat).op = 4 ∨ (insB p S x.thread.toNat).op = 5 ∨ (insB p S x.thread.toNat).op = 6 ∨ (insB p S x.thread.toNat).op = 7 ∨ (insB p S x.thread.toNat).op = 8 at h5
          unfold stillP
          rcases h5 with e | e | e | e | e | e | e | e
          · exact absurd e h1
          · exact absurd e hop
          · exact .inl e
          · exact absurd (by omega) (hn (.inl e))
          · exact absurd (by omega) (hn (.inr (.inl e)))
          · exact absurd (by omega) (hn (.inr (.inr e)))
          · exact .inr (.inr e)
          · exact .inr (.inl e)
        rw [still_mem hst, ← hc2, hb _ (by omega)]
      · rw [hb _ (by omega)]
theorem rest_buf (h : ∀ j, 42 ≤ j → T.getD j 0 = S.getD j 0) : (∀ u, u < 4 → T.getD (138 + u) 0 = S.getD (138 + u) 0) ∧ ∀ u, u < 4 → ∀ i, i < 12 → stL T u i = stL S u i ∧ stV T u i = stV S u i :=
  ⟨fun u _ => h _ (by omega), fun u _ i _ => ⟨h _ (by omega), h _ (by omega)⟩⟩
theorem o_quiet (hS : BValid p mach S) (hmk : mach = 2 ∨ mach = 3) {x : Pass} (hx : x ∈ passesF p mach S) (hd : x.drain = false) (ht : t < 4) (hop : (insB p S x.thread.toNat).op ≠ 2) (hr : ¬ ((insB p S x.thread.toNat).op = 4 ∨ (insB p S x.thread.toNat).op = 5 ∨ (insB p S x.thread.toNat).op = 6)) (h : OInv mach S t put last oth) : OInv mach (doesF p mach S x) t put last oth := by
  obtain ⟨c1, c2⟩ := rest_cells hS hmk hx hd hop
  obtain ⟨b1, b2⟩ := rest_buf c1
  exact o_keep hS (does_next hS hx).1 ht h h.lo (fun _ h => h) b1 b2 fun c hc _ => c2 c hc fun h => absurd h hr
theorem o_rmw_other (hS : BValid p mach S) (hmk : mach = 2 ∨ mach = 3) {x : Pass} (hx : x ∈ passesF p mach S) (hd : x.drain = false) (ht : t < 4) (hop : (insB p S x.thread.toNat).op ≠ 2) (h : OInv mach S t put last oth) : OInv mach (doesF p mach S x) t put last (oth.set (insB p S x.thread.toNat).loc.toNat true) := by
  obtain ⟨c1, c2⟩ := rest_cells hS hmk hx hd hop
  obtain ⟨b1, b2⟩ := rest_buf c1
  have hpf := pass_facts hS hx
  have hl := hS.ok.loc hpf.1 (hpf.2.2.1 hd)
  have hL := hS.ok.locs
  have hl6 : (insB p S x.thread.toNat).loc.toNat < 6 := by unfold insB; omega
  have hlo := h.lo
  refine o_keep hS (does_next hS hx).1 ht h (by rw [List.length_set]; exact h.lo) (fun c hc => ?_) b1 b2 fun c hc hf => c2 c hc fun _ e => ?_
  · rw [setB_getD (by omega)]
    split
    · rfl
    · exact hc
  · rw [setB_getD (by omega), if_pos e] at hf
    cases hf
theorem o_rmw_own (hS : BValid p mach S) (hmk : mach = 2 ∨ mach = 3) {x : Pass} (hx : x ∈ passesF p mach S) (hd : x.drain = false) (hop : (insB p S x.thread.toNat).op = 4 ∨ (insB p S x.thread.toNat).op = 5 ∨ (insB p S x.thread.toNat).op = 6) (h : OInv mach S x.thread.toNat put last oth) :
    OInv mach (doesF p mach S x) x.thread.toNat put (last.set (insB p S x.thread.toNat).loc.toNat ((doesF p mach S x).getD (36 + (insB p S x.thread.toNat).loc.toNat) 0)) oth := by
  have hop2 : (insB p S x.thread.toNat).op ≠ 2 := by rcases hop with e | e | e <;> rw [e] <;> decide
  obtain ⟨c1, c2⟩ := rest_cells hS hmk hx hd hop2
  obtain ⟨b1, b2⟩ := rest_buf c1
  have hT := (does_next hS hx).1
  have hpf := pass_facts hS hx
  have ht := hpf.2.1
  have h0 := (bmay_iff.1 (pass_may hS hx hd)).2.1 hop
  have hl := hS.ok.loc hpf.1 (hpf.2.2.1 hd)
  have hL := hS.ok.locs
  have hl6 : (insB p S x.thread.toNat).loc.toNat < 6 := by unfold insB; omega
  have hll := h.ll
  have hbt : bufL (doesF p mach S x) x.thread.toNat ((doesF p mach S x).getD (138 + x.thread.toNat) 0).toNat = bufL S x.thread.toNat (S.getD (138 + x.thread.toNat) 0).toNat := by
    rw [b1 _ ht]
    exact bufL_congr fun i hi => b2 _ ht i (by have := (hS.most ht).1; omega)
  refine ⟨by rw [List.length_set]; exact h.ll, h.lo, fun e => by rw [hbt]; exact h.tso e, fun c => by rw [hbt]; exact h.flt c, fun c hc hf => ?_, fun u hu hne i hi => ?_⟩
  · rw [sees_mem hT hc ht (by rw [b1 _ ht, h0]), set_getD _ _ _ _ (by omega)]
    split
    · rename_i e; rw [e]
    · rename_i e
      rw [h.seen c hc hf, sees_mem hS hc ht h0, c2 _ hc fun _ => e]
  · rw [b1 u hu] at hi
    have := (hS.most hu).1
    rw [(b2 u hu i (by omega)).1]
    exact h.held u hu hne i hi
theorem o_end (hS : BValid p mach S) (hp : passesF p mach S = []) (ht : t < 4) (h : OInv mach S t put last oth) : put = [] ∧ ∀ c, c < 6 → oth.getD c false = false → last.getD c 0 = S.getD (36 + c) 0 := by
  have he := end_empty hS hp
  constructor
  · have hb : bufL S t (S.getD (138 + t) 0).toNat = [] := by rw [he t ht]; rfl
    cases hput : put with
    | nil => rfl
    | cons y l =>
      have := h.flt y.loc
      rw [hb, hput, List.filter_cons, if_pos (by simp)] at this
      cases this
  · intro c hc hf
    have e : (UInt8.ofNat c).toNat = c := by rw [UInt8.toNat_ofNat']; omega
    have h1 := h.seen (UInt8.ofNat c) (by omega) (by rw [e]; exact hf)
    rw [e, sees_mem hS (by omega) ht (he t ht), e] at h1
    exact h1
end
theorem final_go (S : List UInt8) (hS : S.length = 142) : ∀ (n a : Nat) (F : List UInt8), a + n = 4 → F.length = 38 → ∀ l, 32 ≤ l → (loopN (finalF_a S) finalF_ak n (a, F)).getD l 0 = F.getD l 0
  | 0, a, F, _, _, l, _ => rfl
  | n + 1, a, F, h, hF, l, hl => by
    have hx : ((((((S.drop 0).take 36).drop (a * 9)).take 9).drop 1).take 8).length = 8 := by simp only [List.length_take, List.length_drop]; omega
    have ih := final_go S hS n (a + 1) (F.take (a * 8) ++ ((((((S.drop 0).take 36).drop (a * 9)).take 9).drop 1).take 8) ++ F.drop (a * 8 + ((((((S.drop 0).take 36).drop (a * 9)).take 9).drop 1).take 8).length)) (by omega) (by rw [splice_length _ _ _ (by omega), hF]) l hl
    refine Eq.trans ?_ (ih.trans ?_)
    · rfl
    · rw [splice_getD _ _ _ _ (by omega), if_neg (by omega)]
theorem final_mem {S : List UInt8} (hS : S.length = 142) {l : Nat} (hl : l < 6) : (finalF S).getD (32 + l) 0 = S.getD (36 + l) 0 := by
  unfold finalF
  have h6 : ((S.drop 36).take 6).length = 6 := by simp only [List.length_take, List.length_drop]; omega
  rw [final_go S hS (4 - 0) 0 _ (by omega) (by rw [List.length_append, List.length_replicate, h6]) _ (by omega), List.getD_eq_getElem?_getD, List.getElem?_append_right (by rw [List.length_replicate]; omega), List.length_replicate, ← List.getD_eq_getElem?_getD, show 32 + l - 32 = l by omega, sub_getD _ _ _ _ hl]

end Go.Proofs.YtimonjemjhecoaaGreatDoor
