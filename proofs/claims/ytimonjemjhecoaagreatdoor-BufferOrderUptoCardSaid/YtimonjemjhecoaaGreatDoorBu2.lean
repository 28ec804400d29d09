/- Walks, printed by a program of this repository (wip/tool). -/
import Derived.Test.YtimonjemjhecoaaGreatDoorApp
namespace Go.Proofs.YtimonjemjhecoaaGreatDoor
open Go.RowKit
open Go
attribute [local irreducible] wpList wpQuiet wpX Code.wp
set_option maxHeartbeats 1000000
set_option maxRecDepth 100000
set_option linter.unusedSimpArgs false
set_option linter.unusedVariables false


def thU (t : Nat) : UInt8 := UInt8.ofNat ((t : Int) % 256).toNat
theorem thU_nat {t : Nat} (h : t < 256) : (thU t).toNat = t := by
  unfold thU
  rw [UInt8.toNat_ofNat']
  omega
def drC (mach : UInt8) (S : List UInt8) (t k : Nat) : Bool := (mach == 2 && k == 0) || (mach == 3 && (k == 0 || stL S t (k - 1) != stL S t k))
def drP (mach : UInt8) (S : List UInt8) (t k : Nat) : Pass := ⟨thU t, true, if mach = 2 then 0 else stL S t k⟩
theorem drains_go (mach : UInt8) (S : List UInt8) (t m : Nat) (hm : (S.getD (138 + t) 0).toNat = m) : ∀ (n k : Nat) (acc : List Pass) (f : Nat), k + n = m → n < f →
    loopF (drainsF_a mach S t) f (UInt8.ofNat k, acc) = acc ++ ((List.range' k n).filter (drC mach S t)).map (drP mach S t)
  | n, k, acc, 0, h, hf => by omega
  | 0, k, acc, f + 1, h, hf => by
    show drainsF_a mach S t (loopF (drainsF_a mach S t) f) (UInt8.ofNat k, acc) = _
    have h256 := UInt8.toNat_lt (S.getD (138 + t) 0)
    have hk : (UInt8.ofNat k).toNat = k := by rw [UInt8.toNat_ofNat']; omega
    simp only [drainsF_a]
    rw [decide_eq_false (fun h' => by have := UInt8.lt_iff_toNat_lt.1 h'; omega), cond_false]
    simp
  | n + 1, k, acc, f + 1, h, hf => by
    show drainsF_a mach S t (loopF (drainsF_a mach S t) f) (UInt8.ofNat k, acc) = _
    have h256 := UInt8.toNat_lt (S.getD (138 + t) 0)
    have hk : (UInt8.ofNat k).toNat = k := by rw [UInt8.toNat_ofNat']; omega
    have hk1 : UInt8.ofNat k + 1 = UInt8.ofNat (k + 1) := UInt8.toNat_inj.1 (by rw [UInt8.toNat_add, hk, UInt8.toNat_ofNat']; rfl)
    have h0 : (UInt8.ofNat k == (0 : UInt8)) = (k == 0) := by
      rw [Bool.eq_iff_iff, beq_iff_eq, beq_iff_eq, ← UInt8.toNat_inj, hk]; rfl
    have hs : 0 < k → (UInt8.ofNat k - 1).toNat = k - 1 := fun hp => by
      rcases u8_sub1 (UInt8.ofNat k) with h' | h' <;> omega
    simp only [drainsF_a]
    rw [decide_eq_true (UInt8.lt_iff_toNat_lt.2 (by omega)), cond_true, h0, hk1, hk]
    have ih := fun acc => drains_go mach S t m hm n (k + 1) acc f (by omega) (by omega)
    rw [ih, ih, ih, List.range'_succ, List.filter_cons]
    by_cases h2 : mach = 2
    · subst h2
      cases hk0 : (k == 0)
      · rw [show drC 2 S t k = false by simp [drC, hk0]]
        simp [hk0]
      · rw [show drC 2 S t k = true by simp [drC, hk0]]
        simp [hk0, drP, thU]
    · rw [beq_eq_false_iff_ne.2 h2, Bool.false_and, cond_false]
      by_cases h3 : mach = 3
      · subst h3
        have hc : ((k == 0) || ((S.getD (42 + t * 24 + (UInt8.ofNat k - 1).toNat * 2) 0) != (S.getD (42 + t * 24 + k * 2) 0))) = drC 3 S t k := by
          rcases Nat.eq_zero_or_pos k with rfl | hp
          · rfl
          · rw [hs hp]; rfl
        rw [hc, show ((3 : UInt8) == 3) = true by rfl, Bool.true_and]
        cases drC 3 S t k
        · simp
        · simp [drP, thU, stL]
      · rw [beq_eq_false_iff_ne.2 h3, Bool.false_and, cond_false, show drC mach S t k = false by simp [drC, h2, h3]]
        simp
theorem drains_eq (mach : UInt8) (S : List UInt8) (t : Nat) : drainsF mach S t = ((List.range' 0 (S.getD (138 + t) 0).toNat).filter (drC mach S t)).map (drP mach S t) := by
  have h := drains_go mach S t _ rfl (S.getD (138 + t) 0).toNat 0 [] 256 (by omega) (UInt8.toNat_lt _)
  rw [List.nil_append] at h
  exact h
theorem drains_le (mach : UInt8) (S : List UInt8) (t : Nat) : (drainsF mach S t).length ≤ (S.getD (138 + t) 0).toNat := by
  rw [drains_eq, List.length_map]
  have := List.length_filter_le (drC mach S t) (List.range' 0 (S.getD (138 + t) 0).toNat)
  rw [List.length_range'] at this
  exact this
theorem drains_mem {mach : UInt8} {S : List UInt8} {t : Nat} {x : Pass} : x ∈ drainsF mach S t ↔ ∃ k, k < (S.getD (138 + t) 0).toNat ∧ drC mach S t k = true ∧ drP mach S t k = x := by
  rw [drains_eq, List.mem_map]
  constructor
  · rintro ⟨k, hk, rfl⟩
    rw [List.mem_filter, List.mem_range'_1] at hk
    exact ⟨k, by omega, hk.2, rfl⟩
  · rintro ⟨k, hk, hc, rfl⟩
    exact ⟨k, List.mem_filter.2 ⟨List.mem_range'_1.2 (by omega), hc⟩, rfl⟩

def passesF_b (mach : UInt8) (s : List UInt8) (a12 : Nat) (ra : (Nat × (List Pass)) → (List Pass)) (brow1 : List Pass) : (List Pass) :=
  ra ((a12 + 1), (brow1 ++ (drainsF mach s a12)))
def passesF_a (p : Prog) (mach : UInt8) (s : List UInt8) (xra : (Sl Ins)) (ra : (Nat × (List Pass)) → (List Pass)) : (Nat × (List Pass)) → (List Pass) := fun s_ => match s_ with | (a12, arow1) => bif (bMayF p mach s a12) then (passesF_b mach s a12 ra (arow1 ++ [(⟨(UInt8.ofNat ((a12 : Int) % 256).toNat), false, (0 : UInt8)⟩ : Pass)])) else (passesF_b mach s a12 ra arow1)
def passesF_ak : (Nat × (List Pass)) → (List Pass) := fun s_ => match s_ with | (a12, arow1) => arow1
def passesF (p : Prog) (mach : UInt8) (s : List UInt8) : (List Pass) :=
  loopL (passesF_a p mach s) passesF_ak p.threads.l (0, ([] : List Pass))


theorem passesF_spec (p : Prog) (mach : UInt8) (s : List UInt8) (hs : s.length = 142) (hl : p.threads.l.length ≤ 4) (hm : ∀ t, t < 4 → (s.getD (138 + t) 0).toNat ≤ 12) (w : World) (hp : (IsProg p) w) :
    Calls Tryz.prog 28 #[.agg p.cells.toArray, bv mach, .agg (enc s).toArray] w fun e w' => ∃ x : (Option Addr × Nat), e = .returned ((⟨x.1, x.2, (passesF p mach s)⟩ : Sl Pass).val) ∧ Ext w w' ∧ Fresh w w' (SlIn 3 Pass.cells (⟨x.1, x.2, (passesF p mach s)⟩ : Sl Pass)) := by
 have H := Own.start_ro w [IsProg p] (List.forall_mem_cons.2 ⟨fun w' hw => hp.keep hw, fun _ h => by cases h⟩)
 have hcp1 := hp.locs.2.2
 have hcp2 := hp.init.2.2
 have hcp3 := hp.threads.2.2
 go_enter Tryz.func28, Tryz.ntmps28
 refine wsr ?_
 refine wl_box H rfl rfl (v := .agg (p.cells).toArray) rfl ?_
 clear H; intro b1 w1 hnb1 H; dsimp only [Value.cells] at H
 simp only [N]
 refine wl_box H rfl rfl (v := .agg (enc s).toArray) rfl ?_
 clear H; intro b2 w2 hnb2 H; dsimp only [Value.cells] at H
 simp only [N]
 refine wasg ((.slice none 0 0)) ?_; simp only [N]
 refine wnr ?_
 refine wasg ((.slice none 0 0)) ?_; simp only [N]
 refine wpList_nil ?_
 refine wp_seq ?_; refine wsr ?_
 refine wr (rp_fieldAddr rfl Tryz.underlying29 rfl 3 rfl sz24 rfl 3 rfl) ?_; simp only [N]
 refine wr (rp_load1 H 1 rfl rfl rfl Tryz.underlying24 rfl (v := p.threads.val) rfl) ?_; simp only [N]
 refine wr (rp_len_sl (s := p.threads) Tryz.underlying24 rfl) ?_; simp only [N]
 refine wmv (iv (0 : Int)) ?_; simp only [N]
 refine wpList_nil ?_
 refine wp_block ?_
 have H := H.rowNilT Pass.cells 50 3
 refine wp_loopX (fun m' a' w' => ∃ (a12 : Nat) (arow1 : List Pass) (avrow1 : Value), a' = ⟨#[(tq a' 0), bv mach, (tq a' 2), .pointer (some ⟨b1, 0, none⟩), uU, .pointer (some ⟨b2, 0, none⟩), (tq a' 6), avrow1, (tq a' 8), (tq a' 9), (tq a' 10), iv (p.threads.l.length : Int), iv (a12 : Int), (tq a' 13), (tq a' 14), (tq a' 15), (tq a' 16), (tq a' 17), (tq a' 18), (tq a' 19), (tq a' 20), (tq a' 21), (tq a' 22), (tq a' 23), (tq a' 24), (tq a' 25), (tq a' 26), (tq a' 27), (tq a' 28), (tq a' 29), (tq a' 30), (tq a' 31), (tq a' 32), uU], []⟩ ∧ Own w [] [IsProg p] [.row avrow1 50 3 arow1.length (arow1.flatMap Pass.cells), .blk b2 (.cells (enc s).toArray 41 (0, 0)), .blk b1 (.cells (p.cells).toArray 29 (0, 0))] w' ∧ (arow1.length ≤ 13 * a12) ∧ (a12 ≤ p.threads.l.length) ∧ (passesF p mach s) = loopL (passesF_a p mach s) passesF_ak (p.threads.l.drop a12) (a12, arow1) ∧ m' = p.threads.l.length - a12) _ ⟨0, ([] : List Pass), (.slice none 0 0), (by kernel_rfl), H, (by simp), (by omega), rfl, rfl⟩ ?_
 clear H
 rintro _ a_ w3 ⟨a12, arow1, avrow1, ha_, H, hia0, hia1, hFa, rfl⟩
 obtain ⟨ua, hu_⟩ : ∃ u : Nat → Value, ∀ n, tq a_ n = u n := ⟨_, fun _ => rfl⟩
 try simp only [hu_] at ha_
 clear hu_; subst ha_
 refine wsr ?_
 refine wr (rp_int_lss rfl (a12 : Int) (p.threads.l.length : Int) rfl rfl) ?_; simp only [N]
 refine wpList_nil ?_
 refine wp_seq ?_; refine wp_cond_split rfl (fun hc1 => ?_) (fun hc1 => ?_)
 · --T 1
  have hc1N1 : (a12 : Int) < (p.threads.l.length : Int) := (by simpa using hc1)
  obtain ⟨ra, hra⟩ : ∃ r, r = loopL (passesF_a p mach s) passesF_ak (p.threads.l.drop (a12 + 1)) := ⟨_, rfl⟩
  have hFa2 := hFa.trans (loopL_step (show a12 < p.threads.l.length by omega))
  rw [← hra] at hFa2
  refine wp_skip ?_
  refine wp_seq ?_; refine wp_block ?_
  refine wsr ?_
  refine wmv (iv (a12 : Int)) ?_; simp only [N]
  refine wasg (iv (a12 : Int)) ?_; simp only [N]
  refine wpList_nil ?_
  refine wp_seq ?_; refine wp_cutX (fun a' w' => ∃ (brow1 : List Pass) (bvrow1 : Value), a' = ⟨#[(ua 0), bv mach, (ua 2), .pointer (some ⟨b1, 0, none⟩), uU, .pointer (some ⟨b2, 0, none⟩), (ua 6), bvrow1, iv (a12 : Int), (ua 9), (ua 10), iv (p.threads.l.length : Int), iv (a12 : Int), (tq a' 13), (tq a' 14), (tq a' 15), (tq a' 16), (tq a' 17), (tq a' 18), (tq a' 19), (tq a' 20), (tq a' 21), (tq a' 22), (tq a' 23), (tq a' 24), (tq a' 25), (ua 26), (ua 27), (ua 28), (ua 29), (ua 30), (ua 31), (ua 32), uU], []⟩ ∧ Own w [] [IsProg p] [.row bvrow1 50 3 brow1.length (brow1.flatMap Pass.cells), .blk b2 (.cells (enc s).toArray 41 (0, 0)), .blk b1 (.cells (p.cells).toArray 29 (0, 0))] w' ∧ (brow1.length ≤ 13 * a12 + 1) ∧ (passesF p mach s) = passesF_b mach s a12 ra brow1) ?_ ?_
  ·
   refine wsr ?_
   refine wr (rp_loadN H 2 rfl rfl rfl Tryz.underlying29 rfl sz29 (Nat.le_of_ble_eq_true rfl) (cs' := p.cells) rfl) ?_; simp only [N]
   refine wmv (bv mach) ?_; simp only [N]
   refine wr (rp_loadWA H 1 rfl rfl rfl Tryz.underlying41 rfl sz41 rfl) ?_; simp only [N]
   refine wmv (iv (a12 : Int)) ?_; simp only [N]
   refine wl_callE H rfl (rc_go Tryz.func46 (by kernel_rfl) rfl) (bMayF_spec p mach s a12 (by first | omega | simp [-List.reduceReplicate] <;> omega | simp [*, -List.reduceReplicate] <;> omega) (by omega) (by omega) _ (H.ro_at 0 rfl)) ?_
   clear H; intro w4 H
   simp only [N]
   refine wpList_nil ?_
   refine wp_cond_split rfl (fun hc2 => ?_) (fun hc2 => ?_)
   · --T 2
    refine wp_region_lit ?_; refine wmv avrow1 ?_; simp only [N]
    refine wmv (iv (a12 : Int)) ?_; simp only [N]
    refine wr (rp_int_to_u8 rfl Tryz.underlying3 Tryz.underlying5 (a12 : Int) rfl) ?_; simp only [N]
    refine wr (rp_build rfl (vs := [(0, bv (UInt8.ofNat ((a12 : Int) % 256).toNat))]) rfl (cs := #[bv (UInt8.ofNat ((a12 : Int) % 256).toNat), .bool false, bv (0 : UInt8)]) (by kernel_rfl)) ?_; simp only [N]
    refine wl_xallocF H rfl (xa_buildSlice rfl Tryz.underlying44 sz50 zv50 (by decide) (by decide) (vs := [(0, .agg #[bv (UInt8.ofNat ((a12 : Int) % 256).toNat), .bool false, bv (0 : UInt8)])]) rfl (cs := #[bv (UInt8.ofNat ((a12 : Int) % 256).toNat), .bool false, bv (0 : UInt8)]) (by kernel_rfl)) ?_
    clear H; intro b3 w5 hnb3 H
    simp only [N]
    refine wl_appendT Pass.cells H 0 rfl Tryz.underlying44 sz50 zv50 by50 rfl (by decide) rfl rfl (ad := ⟨b3, 0, none⟩) (m := 1) (c := 1) rfl [(⟨(UInt8.ofNat ((a12 : Int) % 256).toNat), false, (0 : UInt8)⟩ : Pass)] rfl Pass.cells_n (fun j u hu => cell_of_news (H.ro_at 0 rfl) j u hu) (by intro x; simp [Pass.cells, Value.oneCell']) (by first | omega | (simp only [List.length_append, List.length_cons, List.length_nil]; omega)) (by first | omega | (simp only [List.length_append, List.length_cons, List.length_nil]; omega)) (by simp) ?_
    clear H; intro b4 w6 H; simp only [M] at H
    simp only [N]
    refine wasg b4 ?_; simp only [N]
    refine wpList_nil ?_
    replace H := H.facts (R' := [IsProg p]) (by first | exact fun _ h => h | simp)
    exact ⟨(arow1 ++ [(⟨(UInt8.ofNat ((a12 : Int) % 256).toNat), false, (0 : UInt8)⟩ : Pass)]), b4, (by kernel_rfl), H, (by first | omega | (simp only [List.length_append, List.length_cons, List.length_nil]; omega)), hFa2.trans (bt hc2)⟩
   · --F 2
    refine wp_skip ?_
    exact ⟨arow1, avrow1, (by kernel_rfl), H, (by first | omega | (simp only [List.length_append, List.length_cons, List.length_nil]; omega)), hFa2.trans (bf hc2)⟩
  clear H
  rintro a_ w7 ⟨brow1, bvrow1, ha_, H, hjb0, hFb⟩
  obtain ⟨ub, hu_⟩ : ∃ u : Nat → Value, ∀ n, tq a_ n = u n := ⟨_, fun _ => rfl⟩
  try simp only [hu_] at ha_
  clear hu_; subst ha_
  refine wp_region_lit ?_; refine wmv bvrow1 ?_; simp only [N]
  refine wmv (bv mach) ?_; simp only [N]
  refine wr (rp_loadWA H 1 rfl rfl rfl Tryz.underlying41 rfl sz41 rfl) ?_; simp only [N]
  refine wmv (iv (a12 : Int)) ?_; simp only [N]
  refine wl_callFA H rfl (rc_go Tryz.func47 (by kernel_rfl) rfl) (drainsF_spec mach s a12 (by first | omega | simp [-List.reduceReplicate] <;> omega | simp [*, -List.reduceReplicate] <;> omega) (by omega) (by exact hm _ (by omega)) _ ) ?_
  clear H; intro x1_ w8 H
  simp only [N]
  have hcx1_0 : (drainsF mach s a12).length ≤ 140737488355328 := (FreshAt.now (H.ro_at 0 rfl)).2.2.1
  refine wl_appendS Pass.cells H 0 rfl Tryz.underlying44 sz50 zv50 by50 rfl (by decide) rfl rfl (s := (⟨x1_.1, x1_.2, (drainsF mach s a12)⟩ : Sl Pass)) rfl (FreshAt.now (H.ro_at 0 rfl)) Pass.cells_n (by intro x; simp [Pass.cells, Value.oneCell']) (by have hdl := drains_le mach s a12; have hdm := hm a12 (by omega); (try dsimp only); omega) (by have hdl := drains_le mach s a12; have hdm := hm a12 (by omega); (try dsimp only); omega) (by simp) ?_
  clear H; intro b5 w9 H; simp only [M] at H
  simp only [N]
  refine wasg b5 ?_; simp only [N]
  refine wpList_nil ?_
  refine wp_region_lit ?_; refine wr (rp_int_add rfl (a12 : Int) (1 : Int) rfl rfl (by omega)) ?_; simp only [N]
  refine wmv (iv ((a12 : Int) + (1 : Int))) ?_; simp only [N]
  refine wpList_nil ?_
  replace H := H.facts (R' := [IsProg p]) (by first | exact fun _ h => h | simp)
  show ∃ n', n' < _ ∧ _
  refine ⟨_, ?_, (a12 + 1), (brow1 ++ (drainsF mach s a12)), b5, (by kernel_rfl), H, (by simp only [List.length_append, List.length_cons, List.length_nil]; have hdl := drains_le mach s a12; have hdm := hm a12 (by omega); omega), (by omega), hFb.trans (congrFun hra _), rfl⟩
  omega
 · --F 1
  have hc1N2 : (p.threads.l.length : Int) ≤ (a12 : Int) := (by simpa using hc1)
  have hFa2 := hFa.trans (loopL_end (show p.threads.l.length ≤ a12 by omega))
  refine wp_exit ?_
  refine wsr ?_
  refine wmv avrow1 ?_; simp only [N]
  refine wasg avrow1 ?_; simp only [N]
  refine wpList_nil ?_
  refine wp_ret ?_
  try simp only [Exit.inBlock, Exit.then, cutP]
  refine bodyPost_ret (results1 rfl (rv_tmp rfl)) rfl ?_
  obtain ⟨sl1, hsv1, hsf1⟩ := fresh_row H 0 rfl arow1 rfl rfl Pass.cells_n (by first | omega | (simp only [List.length_append, List.length_cons, List.length_nil]; omega))
  subst hsv1
  have hF : (passesF p mach s) = arow1 := hFa2
  rw [hF]
  exact ⟨sl1, rfl, H.ext, hsf1⟩


def passAt (p : Prog) (mach : UInt8) (S : List UInt8) (t : Nat) : List Pass := (if bMayF p mach S t = true then [(⟨thU t, false, 0⟩ : Pass)] else []) ++ drainsF mach S t
theorem passes_go (p : Prog) (mach : UInt8) (S : List UInt8) : ∀ (l : List (Sl Ins)) (k : Nat) (acc : List Pass), loopL (passesF_a p mach S) passesF_ak l (k, acc) = acc ++ (List.range' k l.length).flatMap (passAt p mach S)
  | [], k, acc => by simp [loopL, passesF_ak]
  | x :: l, k, acc => by
    show passesF_a p mach S x (loopL (passesF_a p mach S) passesF_ak l) (k, acc) = _
    simp only [passesF_a, passesF_b, passes_go p mach S l]
    rw [List.length_cons, List.range'_succ, List.flatMap_cons]
    unfold passAt thU
    cases bMayF p mach S k <;> simp
theorem passes_eq (p : Prog) (mach : UInt8) (S : List UInt8) : passesF p mach S = (List.range' 0 p.threads.l.length).flatMap (passAt p mach S) := by
  have h := passes_go p mach S p.threads.l 0 []
  rw [List.nil_append] at h
  exact h
theorem passes_mem {p : Prog} {mach : UInt8} {S : List UInt8} {x : Pass} : x ∈ passesF p mach S ↔ ∃ t, t < p.threads.l.length ∧ ((bMayF p mach S t = true ∧ x = ⟨thU t, false, 0⟩) ∨ ∃ k, k < (S.getD (138 + t) 0).toNat ∧ drC mach S t k = true ∧ drP mach S t k = x) := by
  rw [passes_eq, List.mem_flatMap]
  constructor
  · rintro ⟨t, ht, hx⟩
    rw [List.mem_range'_1] at ht
    refine ⟨t, by omega, ?_⟩
    rcases List.mem_append.1 hx with hx | hx
    · left
      by_cases h : bMayF p mach S t = true
      · rw [if_pos h] at hx
        exact ⟨h, List.mem_singleton.1 hx⟩
      · rw [if_neg h] at hx
        cases hx
    · exact .inr (drains_mem.1 hx)
  · rintro ⟨t, ht, hx⟩
    refine ⟨t, List.mem_range'_1.2 (by omega), ?_⟩
    rcases hx with ⟨h, rfl⟩ | hx
    · exact List.mem_append_left _ (by rw [if_pos h]; exact List.mem_singleton.2 rfl)
    · exact List.mem_append_right _ (drains_mem.2 hx)
theorem bmay_pc {p : Prog} {mach : UInt8} {S : List UInt8} {t : Nat} (h : bMayF p mach S t = true) : (S.getD (t * 9) 0).toNat < (p.threads.l.getD t default).l.length := by
  unfold bMayF at h
  cases hc : decide ((((p.threads.l.getD t default).l.length : Nat) : Int) ≤ ((S.getD (t * 9) 0).toNat : Int)) <;> rw [hc] at h
  · have := of_decide_eq_false hc
    omega
  · cases h
theorem pass_facts {p : Prog} {mach : UInt8} {S : List UInt8} {x : Pass} (hv : BValid p mach S) (hx : x ∈ passesF p mach S) :
    x.thread.toNat < p.threads.l.length ∧ x.thread.toNat < 4 ∧ (x.drain = false → (S.getD (x.thread.toNat * 9) 0).toNat < (p.threads.l.getD x.thread.toNat default).l.length) ∧
    (x.drain = true → 0 < (S.getD (138 + x.thread.toNat) 0).toNat ∧ (mach = 3 → ∃ k, k < (S.getD (138 + x.thread.toNat) 0).toNat ∧ S.getD (42 + x.thread.toNat * 24 + k * 2) 0 = x.loc)) := by
  obtain ⟨t, ht, hx⟩ := passes_mem.1 hx
  have hl := hv.ok.threads
  have hU := thU_nat (show t < 256 by omega)
  rcases hx with ⟨h, rfl⟩ | ⟨k, hk, hc, rfl⟩
  · rw [show (⟨thU t, false, 0⟩ : Pass).thread.toNat = t from hU]
    exact ⟨ht, by omega, fun _ => bmay_pc h, fun h' => (by cases h')⟩
  · rw [show (drP mach S t k).thread.toNat = t from hU]
    refine ⟨ht, by omega, fun h' => (by cases h'), fun _ => ⟨by omega, fun h3 => ⟨k, hk, ?_⟩⟩⟩
    subst h3
    rfl
theorem BValid.loc6 {p : Prog} {mach : UInt8} {S : List UInt8} (hv : BValid p mach S) {t : Nat} (ht : t < 4) : ∀ k, k < (S.getD (138 + t) 0).toNat → (S.getD (42 + t * 24 + k * 2) 0).toNat < 6 := fun k hk => by
  have h1 := hv.loc t ht k (by have := (hv.most ht).1; omega) hk
  have h2 := hv.ok.locs
  have : stL S t k = S.getD (42 + t * 24 + k * 2) 0 := rfl
  rw [this] at h1
  omega

def bMovesF (p : Prog) (mach : UInt8) (s : List UInt8) : (List Pass) :=
  bif (!(bRightF p mach s)) then ([]) else (passesF p mach s)


theorem bMovesF_spec (p : Prog) (mach : UInt8) (s : List UInt8) (hs : s.length = 142) (w : World) (hp : (IsProg p) w) (hg_ : Glob w) :
    Calls Tryz.prog 10 #[.agg p.cells.toArray, bv mach, .agg (enc s).toArray] w fun e w' => ∃ x : (Option Addr × Nat), e = .returned ((⟨x.1, x.2, (bMovesF p mach s)⟩ : Sl Pass).val) ∧ Ext w w' ∧ Fresh w w' (SlIn 3 Pass.cells (⟨x.1, x.2, (bMovesF p mach s)⟩ : Sl Pass)) := by
 have H := Own.start_ro w [IsProg p, Glob] (List.forall_mem_cons.2 ⟨fun w' hw => hp.keep hw, List.forall_mem_cons.2 ⟨fun w' hw => hg_.keep hw, fun _ h => by cases h⟩⟩)
 have hcp1 := hp.locs.2.2
 have hcp2 := hp.init.2.2
 have hcp3 := hp.threads.2.2
 go_enter Tryz.func10, Tryz.ntmps10
 refine wsr ?_
 refine wl_box H rfl rfl (v := .agg (p.cells).toArray) rfl ?_
 clear H; intro b1 w1 hnb1 H; dsimp only [Value.cells] at H
 simp only [N]
 refine wl_box H rfl rfl (v := .agg (enc s).toArray) rfl ?_
 clear H; intro b2 w2 hnb2 H; dsimp only [Value.cells] at H
 simp only [N]
 refine wasg ((.slice none 0 0)) ?_; simp only [N]
 refine wpList_nil ?_
 refine wp_seq ?_; refine wsr ?_
 refine wr (rp_loadN H 1 rfl rfl rfl Tryz.underlying29 rfl sz29 (Nat.le_of_ble_eq_true rfl) (cs' := p.cells) rfl) ?_; simp only [N]
 refine wmv (bv mach) ?_; simp only [N]
 refine wr (rp_loadWA H 0 rfl rfl rfl Tryz.underlying41 rfl sz41 rfl) ?_; simp only [N]
 refine wl_callE H rfl (rc_go Tryz.func22 (by kernel_rfl) rfl) (bRightF_spec p mach s (by first | omega | simp [-List.reduceReplicate] <;> omega | simp [*, -List.reduceReplicate] <;> omega) _ (H.ro_at 0 rfl) (H.ro_at 1 rfl)) ?_
 clear H; intro w3 H
 simp only [N]
 refine wr (rp_not rfl (bRightF p mach s) rfl) ?_; simp only [N]
 refine wpList_nil ?_
 refine wp_cond_split rfl (fun hc1 => ?_) (fun hc1 => ?_)
 · --T 1
  refine wsr ?_
  refine wasg ((.slice none 0 0)) ?_; simp only [N]
  refine wpList_nil ?_
  refine wp_ret ?_
  try simp only [Exit.inBlock, Exit.then, cutP]
  refine bodyPost_ret (results1 rfl (rv_tmp rfl)) rfl ?_
  have hF : (bMovesF p mach s) = [] := bt hc1
  rw [hF]
  exact ⟨(none, 0), rfl, H.ext, (fun _ _ => slin_nil Pass.cells_n)⟩
 · --F 1
  have hv1 := (bvalid_iff hs).1 (by simpa using hc1)
  have hvt := hv1.ok.threads.2
  have hvm := fun t ht => (hv1.most (t := t) ht).1
  refine wp_skip ?_
  refine wsr ?_
  refine wr (rp_loadN H 1 rfl rfl rfl Tryz.underlying29 rfl sz29 (Nat.le_of_ble_eq_true rfl) (cs' := p.cells) rfl) ?_; simp only [N]
  refine wmv (bv mach) ?_; simp only [N]
  refine wr (rp_loadWA H 0 rfl rfl rfl Tryz.underlying41 rfl sz41 rfl) ?_; simp only [N]
  refine wl_callFA H rfl (rc_go Tryz.func28 (by kernel_rfl) rfl) (passesF_spec p mach s (by first | omega | simp [-List.reduceReplicate] <;> omega | simp [*, -List.reduceReplicate] <;> omega) (by first | assumption | omega) (by first | assumption | omega) _ (H.ro_at 0 rfl)) ?_
  clear H; intro x1_ w4 H
  simp only [N]
  have hcx1_0 : (passesF p mach s).length ≤ 140737488355328 := (FreshAt.now (H.ro_at 0 rfl)).2.2.1
  refine wasg ((⟨x1_.1, x1_.2, (passesF p mach s)⟩ : Sl Pass).val) ?_; simp only [N]
  refine wpList_nil ?_
  refine wp_ret ?_
  try simp only [Exit.inBlock, Exit.then, cutP]
  refine bodyPost_ret (results1 rfl (rv_tmp rfl)) rfl ?_
  have hF : (bMovesF p mach s) = (passesF p mach s) := bf hc1
  rw [hF]
  exact ⟨x1_, rfl, H.ext, (FreshAt.fresh (H.ro_at 0 rfl))⟩

def aloneF_v20 (s : List UInt8) (v20 : (List UInt8) × Int) : (List UInt8) :=
  ((v20.1.take 42 ++ ((s.drop 42).take 96) ++ v20.1.drop (42 + ((s.drop 42).take 96).length)).take 138 ++ ((s.drop 138).take 4) ++ (v20.1.take 42 ++ ((s.drop 42).take 96) ++ v20.1.drop (42 + ((s.drop 42).take 96).length)).drop (138 + ((s.drop 138).take 4).length))
def aloneF (p : Prog) (s : List UInt8) (t : UInt8) : (List UInt8) :=
  aloneF_v20 s (moveF p ((s.take 42 ++ (List.replicate 96 (0 : UInt8)) ++ s.drop (42 + (List.replicate 96 (0 : UInt8)).length)).take 138 ++ (List.replicate 4 (0 : UInt8)) ++ (s.take 42 ++ (List.replicate 96 (0 : UInt8)) ++ s.drop (42 + (List.replicate 96 (0 : UInt8)).length)).drop (138 + (List.replicate 4 (0 : UInt8)).length)) (t.toNat : Int))

@[simp] theorem aloneF_len (p : Prog) (s : List UInt8) (t : UInt8) (hs : s.length = 142) : (aloneF p s t).length = 142 := by
  simp only [aloneF, aloneF_v20, Bool.cond_eq_ite]; (repeat' split) <;> first | assumption | omega | (simp [-List.reduceReplicate]; done) | (simp [-List.reduceReplicate]; omega) | (simp [*, -List.reduceReplicate]; done) | (simp [*, -List.reduceReplicate]; omega)

theorem aloneF_spec (p : Prog) (s : List UInt8) (t : UInt8) (hs : s.length = 142) (w : World) (hp : (IsProg p) w) (hg_ : Glob w) :
    Calls Tryz.prog 83 #[.agg p.cells.toArray, .agg (enc s).toArray, bv t] w fun e w' => e = .returned (.agg (enc (aloneF p s t)).toArray) ∧ Ext w w' := by
 have H := Own.start_ro w [IsProg p, Glob] (List.forall_mem_cons.2 ⟨fun w' hw => hp.keep hw, List.forall_mem_cons.2 ⟨fun w' hw => hg_.keep hw, fun _ h => by cases h⟩⟩)
 have hcp1 := hp.locs.2.2
 have hcp2 := hp.init.2.2
 have hcp3 := hp.threads.2.2
 go_enter Tryz.func83, Tryz.ntmps83
 refine wsr ?_
 refine wl_box H rfl rfl (v := .agg (p.cells).toArray) rfl ?_
 clear H; intro b1 w1 hnb1 H; dsimp only [Value.cells] at H
 simp only [N]
 refine wl_box H rfl rfl (v := .agg (enc s).toArray) rfl ?_
 clear H; intro b2 w2 hnb2 H; dsimp only [Value.cells] at H
 simp only [N]
 refine wl_alloc H rfl rfl zv41 ?_
 clear H; intro b3 w3 hnb3 H; dsimp only [Value.cells] at H
 simp only [N]
 simp only [enc_replicate] at H
 refine wnr ?_
 refine wr (rp_loadWA H 1 rfl rfl rfl Tryz.underlying41 rfl sz41 rfl) ?_; simp only [N]
 refine wl_alloc H rfl rfl zv41 ?_
 clear H; intro b4 w4 hnb4 H; dsimp only [Value.cells] at H
 simp only [N]
 simp only [enc_replicate] at H
 refine wl_storeA H 0 rfl rfl rfl rfl s rfl sz41 ?_
 clear H; intro w5 H; simp only [M] at H
 simp only [N]
 refine wnr ?_
 refine wr (rp_build rfl (vs := []) rfl (cs := (enc (List.replicate 96 (0 : UInt8))).toArray) (by kernel_rfl)) ?_; simp only [N]
 refine wr (rp_build rfl (vs := []) rfl (cs := (enc (List.replicate 4 (0 : UInt8))).toArray) (by kernel_rfl)) ?_; simp only [N]
 refine wr (rp_fieldAddr rfl Tryz.underlying41 rfl 42 rfl sz38 rfl 42 rfl) ?_; simp only [N]
 refine wl_storeNA H 0 rfl rfl rfl rfl (List.replicate 96 (0 : UInt8)) rfl sz38 42 rfl ?_
 clear H; intro w6 H; simp only [M] at H
 simp only [N]
 refine wr (rp_fieldAddr rfl Tryz.underlying41 rfl 138 rfl sz39 rfl 138 rfl) ?_; simp only [N]
 refine wl_storeNA H 0 rfl rfl rfl rfl (List.replicate 4 (0 : UInt8)) rfl sz39 138 rfl ?_
 clear H; intro w7 H; simp only [M] at H
 simp only [N]
 refine wnr ?_
 refine wr (rp_loadN H 3 rfl rfl rfl Tryz.underlying29 rfl sz29 (Nat.le_of_ble_eq_true rfl) (cs' := p.cells) rfl) ?_; simp only [N]
 refine wr (rp_loadWA H 0 rfl rfl rfl Tryz.underlying41 rfl sz41 rfl) ?_; simp only [N]
 refine wmv (bv t) ?_; simp only [N]
 refine wr (rp_u8_to_int rfl Tryz.underlying5 Tryz.underlying3 t rfl) ?_; simp only [N]
 refine wl_callE H rfl (rc_go Tryz.func23 (by kernel_rfl) rfl) (moveF_spec p ((s.take 42 ++ (List.replicate 96 (0 : UInt8)) ++ s.drop (42 + (List.replicate 96 (0 : UInt8)).length)).take 138 ++ (List.replicate 4 (0 : UInt8)) ++ (s.take 42 ++ (List.replicate 96 (0 : UInt8)) ++ s.drop (42 + (List.replicate 96 (0 : UInt8)).length)).drop (138 + (List.replicate 4 (0 : UInt8)).length)) (t.toNat : Int) (by first | omega | simp [-List.reduceReplicate] <;> omega | simp [*, -List.reduceReplicate] <;> omega) _ (H.ro_at 0 rfl) (H.ro_at 1 rfl)) ?_
 clear H; intro w8 H
 simp only [N]
 generalize hv20 : (moveF p ((s.take 42 ++ (List.replicate 96 (0 : UInt8)) ++ s.drop (42 + (List.replicate 96 (0 : UInt8)).length)).take 138 ++ (List.replicate 4 (0 : UInt8)) ++ (s.take 42 ++ (List.replicate 96 (0 : UInt8)) ++ s.drop (42 + (List.replicate 96 (0 : UInt8)).length)).drop (138 + (List.replicate 4 (0 : UInt8)).length)) (t.toNat : Int)) = v20
 have hFv20 : (aloneF p s t) = aloneF_v20 s v20 := by first | (rw [← hv20]; exact rfl) | exact rfl
 have hlv20 : (v20.1).length = 142 := by rw [← hv20]; first | omega | simp [-List.reduceReplicate] <;> omega | simp [*, -List.reduceReplicate] <;> omega
 refine wmv (.tuple #[.agg (enc v20.1).toArray, iv v20.2]) ?_; simp only [N]
 refine wr (rp_extract rfl rfl (v := .agg (enc v20.1).toArray) rfl) ?_; simp only [N]
 refine wr (rp_extract rfl rfl (v := iv v20.2) rfl) ?_; simp only [N]
 refine wl_alloc H rfl rfl zv41 ?_
 clear H; intro b5 w9 hnb5 H; dsimp only [Value.cells] at H
 simp only [N]
 simp only [enc_replicate] at H
 refine wl_storeA H 0 rfl rfl rfl rfl v20.1 rfl sz41 ?_
 clear H; intro w10 H; simp only [M] at H
 simp only [N]
 refine wasg (iv v20.2) ?_; simp only [N]
 refine wpList_nil ?_
 refine wp_seq ?_; refine wp_region_mix 0 H (by kernel_rfl) ?_
 refine wa_any (by kernel_rfl) (by kernel_rfl) ?_
 clear H; intro w11 H; simp only [List.cons_append, List.nil_append] at H
 refine wa_2 0 2 rfl rfl (by kernel_rfl) ?_ ?_
 ·
  refine wr (rp_fieldAddr rfl Tryz.underlying41 rfl 42 rfl sz38 rfl 42 rfl) ?_; simp only [N]
  refine wpList_nil ?_
  refine wa_2 1 2 rfl rfl (by kernel_rfl) ?_ ?_
  ·
   refine wr (rp_loadNA H 3 rfl rfl rfl Tryz.underlying38 rfl sz38 42) ?_; simp only [N]
   refine wpList_nil ?_
   refine wa_2 2 4 rfl rfl (by kernel_rfl) ?_ ?_
   ·
    refine wr (rp_fieldAddr rfl Tryz.underlying41 rfl 138 rfl sz39 rfl 138 rfl) ?_; simp only [N]
    refine wpList_nil ?_
    refine wa_2 3 4 rfl rfl (by kernel_rfl) ?_ ?_
    ·
     refine wr (rp_loadNA H 3 rfl rfl rfl Tryz.underlying39 rfl sz39 138) ?_; simp only [N]
     refine wpList_nil ?_
     refine wa_tail 4 _ rfl rfl (by kernel_rfl) ?_
     refine wr (rp_fieldAddr rfl Tryz.underlying41 rfl 42 rfl sz38 rfl 42 rfl) ?_; simp only [N]
     refine wl_storeNA H 0 rfl rfl rfl rfl ((s.drop 42).take 96) rfl sz38 42 rfl ?_
     clear H; intro w12 H; simp only [M] at H
     simp only [N]
     refine wr (rp_fieldAddr rfl Tryz.underlying41 rfl 138 rfl sz39 rfl 138 rfl) ?_; simp only [N]
     refine wl_storeNA H 0 rfl rfl rfl rfl ((s.drop 138).take 4) rfl sz39 138 rfl ?_
     clear H; intro w13 H; simp only [M] at H
     simp only [N]
     refine wnr ?_
     refine wr (rp_loadWA H 0 rfl rfl rfl Tryz.underlying41 rfl sz41 rfl) ?_; simp only [N]
     refine wl_storeA H 2 rfl rfl rfl rfl ((v20.1.take 42 ++ ((s.drop 42).take 96) ++ v20.1.drop (42 + ((s.drop 42).take 96).length)).take 138 ++ ((s.drop 138).take 4) ++ (v20.1.take 42 ++ ((s.drop 42).take 96) ++ v20.1.drop (42 + ((s.drop 42).take 96).length)).drop (138 + ((s.drop 138).take 4).length)) rfl sz41 ?_
     clear H; intro w14 H; simp only [M] at H
     simp only [N]
     refine wpList_nil ?_
     refine wp_ret ?_
     try simp only [Exit.inBlock, Exit.then, cutP]
     refine bodyPost_ret (results1 rfl (rv_aggA H 2 rfl rfl Tryz.underlying41 rfl sz41)) rfl ?_
     have hF : (aloneF p s t) = ((v20.1.take 42 ++ ((s.drop 42).take 96) ++ v20.1.drop (42 + ((s.drop 42).take 96).length)).take 138 ++ ((s.drop 138).take 4) ++ (v20.1.take 42 ++ ((s.drop 42).take 96) ++ v20.1.drop (42 + ((s.drop 42).take 96).length)).drop (138 + ((s.drop 138).take 4).length)) := hFv20
     rw [hF]
     exact ⟨rfl, H.ext⟩
    ·
     refine wr (rp_fieldAddr rfl Tryz.underlying41 rfl 42 rfl sz38 rfl 42 rfl) ?_; simp only [N]
     refine wpList_nil ?_
     refine wa_2 3 5 rfl rfl (by kernel_rfl) ?_ ?_
     ·
      refine wr (rp_loadNA H 3 rfl rfl rfl Tryz.underlying39 rfl sz39 138) ?_; simp only [N]
      refine wpList_nil ?_
      refine wa_tail 5 _ rfl rfl (by kernel_rfl) ?_
      refine wl_storeNA H 0 rfl rfl rfl rfl ((s.drop 42).take 96) rfl sz38 42 rfl ?_
      clear H; intro w15 H; simp only [M] at H
      simp only [N]
      refine wr (rp_fieldAddr rfl Tryz.underlying41 rfl 138 rfl sz39 rfl 138 rfl) ?_; simp only [N]
      refine wl_storeNA H 0 rfl rfl rfl rfl ((s.drop 138).take 4) rfl sz39 138 rfl ?_
      clear H; intro w16 H; simp only [M] at H
      simp only [N]
      refine wnr ?_
      refine wr (rp_loadWA H 0 rfl rfl rfl Tryz.underlying41 rfl sz41 rfl) ?_; simp only [N]
      refine wl_storeA H 2 rfl rfl rfl rfl ((v20.1.take 42 ++ ((s.drop 42).take 96) ++ v20.1.drop (42 + ((s.drop 42).take 96).length)).take 138 ++ ((s.drop 138).take 4) ++ (v20.1.take 42 ++ ((s.drop 42).take 96) ++ v20.1.drop (42 + ((s.drop 42).take 96).length)).drop (138 + ((s.drop 138).take 4).length)) rfl sz41 ?_
      clear H; intro w17 H; simp only [M] at H
      simp only [N]
      refine wpList_nil ?_
      refine wp_ret ?_
      try simp only [Exit.inBlock, Exit.then, cutP]
      refine bodyPost_ret (results1 rfl (rv_aggA H 2 rfl rfl Tryz.underlying41 rfl sz41)) rfl ?_
      have hF : (aloneF p s t) = ((v20.1.take 42 ++ ((s.drop 42).take 96) ++ v20.1.drop (42 + ((s.drop 42).take 96).length)).take 138 ++ ((s.drop 138).take 4) ++ (v20.1.take 42 ++ ((s.drop 42).take 96) ++ v20.1.drop (42 + ((s.drop 42).take 96).length)).drop (138 + ((s.drop 138).take 4).length)) := hFv20
      rw [hF]
      exact ⟨rfl, H.ext⟩
     ·
      refine wl_storeNA H 0 rfl rfl rfl rfl ((s.drop 42).take 96) rfl sz38 42 rfl ?_
      clear H; intro w18 H; simp only [M] at H
      simp only [N]
      refine wpList_nil ?_
      refine wa_1 3 rfl (by kernel_rfl) ?_
      refine wr (rp_loadNA H 3 rfl rfl rfl Tryz.underlying39 rfl sz39 138) ?_; simp only [N]
      refine wpList_nil ?_
      refine wa_tail 6 _ rfl rfl (by kernel_rfl) ?_
      refine wr (rp_fieldAddr rfl Tryz.underlying41 rfl 138 rfl sz39 rfl 138 rfl) ?_; simp only [N]
      refine wl_storeNA H 0 rfl rfl rfl rfl ((s.drop 138).take 4) rfl sz39 138 rfl ?_
      clear H; intro w19 H; simp only [M] at H
      simp only [N]
      refine wnr ?_
      refine wr (rp_loadWA H 0 rfl rfl rfl Tryz.underlying41 rfl sz41 rfl) ?_; simp only [N]
      refine wl_storeA H 2 rfl rfl rfl rfl ((v20.1.take 42 ++ ((s.drop 42).take 96) ++ v20.1.drop (42 + ((s.drop 42).take 96).length)).take 138 ++ ((s.drop 138).take 4) ++ (v20.1.take 42 ++ ((s.drop 42).take 96) ++ v20.1.drop (42 + ((s.drop 42).take 96).length)).drop (138 + ((s.drop 138).take 4).length)) rfl sz41 ?_
      clear H; intro w20 H; simp only [M] at H
      simp only [N]
      refine wpList_nil ?_
      refine wp_ret ?_
      try simp only [Exit.inBlock, Exit.then, cutP]
      refine bodyPost_ret (results1 rfl (rv_aggA H 2 rfl rfl Tryz.underlying41 rfl sz41)) rfl ?_
      have hF : (aloneF p s t) = ((v20.1.take 42 ++ ((s.drop 42).take 96) ++ v20.1.drop (42 + ((s.drop 42).take 96).length)).take 138 ++ ((s.drop 138).take 4) ++ (v20.1.take 42 ++ ((s.drop 42).take 96) ++ v20.1.drop (42 + ((s.drop 42).take 96).length)).drop (138 + ((s.drop 138).take 4).length)) := hFv20
      rw [hF]
      exact ⟨rfl, H.ext⟩
   ·
    refine wr (rp_fieldAddr rfl Tryz.underlying41 rfl 42 rfl sz38 rfl 42 rfl) ?_; simp only [N]
    refine wpList_nil ?_
    refine wa_2 2 5 rfl rfl (by kernel_rfl) ?_ ?_
    ·
     refine wr (rp_fieldAddr rfl Tryz.underlying41 rfl 138 rfl sz39 rfl 138 rfl) ?_; simp only [N]
     refine wpList_nil ?_
     refine wa_2 3 5 rfl rfl (by kernel_rfl) ?_ ?_
     ·
      refine wr (rp_loadNA H 3 rfl rfl rfl Tryz.underlying39 rfl sz39 138) ?_; simp only [N]
      refine wpList_nil ?_
      refine wa_tail 5 _ rfl rfl (by kernel_rfl) ?_
      refine wl_storeNA H 0 rfl rfl rfl rfl ((s.drop 42).take 96) rfl sz38 42 rfl ?_
      clear H; intro w21 H; simp only [M] at H
      simp only [N]
      refine wr (rp_fieldAddr rfl Tryz.underlying41 rfl 138 rfl sz39 rfl 138 rfl) ?_; simp only [N]
      refine wl_storeNA H 0 rfl rfl rfl rfl ((s.drop 138).take 4) rfl sz39 138 rfl ?_
      clear H; intro w22 H; simp only [M] at H
      simp only [N]
      refine wnr ?_
      refine wr (rp_loadWA H 0 rfl rfl rfl Tryz.underlying41 rfl sz41 rfl) ?_; simp only [N]
      refine wl_storeA H 2 rfl rfl rfl rfl ((v20.1.take 42 ++ ((s.drop 42).take 96) ++ v20.1.drop (42 + ((s.drop 42).take 96).length)).take 138 ++ ((s.drop 138).take 4) ++ (v20.1.take 42 ++ ((s.drop 42).take 96) ++ v20.1.drop (42 + ((s.drop 42).take 96).length)).drop (138 + ((s.drop 138).take 4).length)) rfl sz41 ?_
      clear H; intro w23 H; simp only [M] at H
      simp only [N]
      refine wpList_nil ?_
      refine wp_ret ?_
      try simp only [Exit.inBlock, Exit.then, cutP]
      refine bodyPost_ret (results1 rfl (rv_aggA H 2 rfl rfl Tryz.underlying41 rfl sz41)) rfl ?_
      have hF : (aloneF p s t) = ((v20.1.take 42 ++ ((s.drop 42).take 96) ++ v20.1.drop (42 + ((s.drop 42).take 96).length)).take 138 ++ ((s.drop 138).take 4) ++ (v20.1.take 42 ++ ((s.drop 42).take 96) ++ v20.1.drop (42 + ((s.drop 42).take 96).length)).drop (138 + ((s.drop 138).take 4).length)) := hFv20
      rw [hF]
      exact ⟨rfl, H.ext⟩
     ·
      refine wl_storeNA H 0 rfl rfl rfl rfl ((s.drop 42).take 96) rfl sz38 42 rfl ?_
      clear H; intro w24 H; simp only [M] at H
      simp only [N]
      refine wpList_nil ?_
      refine wa_1 3 rfl (by kernel_rfl) ?_
      refine wr (rp_loadNA H 3 rfl rfl rfl Tryz.underlying39 rfl sz39 138) ?_; simp only [N]
      refine wpList_nil ?_
      refine wa_tail 6 _ rfl rfl (by kernel_rfl) ?_
      refine wr (rp_fieldAddr rfl Tryz.underlying41 rfl 138 rfl sz39 rfl 138 rfl) ?_; simp only [N]
      refine wl_storeNA H 0 rfl rfl rfl rfl ((s.drop 138).take 4) rfl sz39 138 rfl ?_
      clear H; intro w25 H; simp only [M] at H
      simp only [N]
      refine wnr ?_
      refine wr (rp_loadWA H 0 rfl rfl rfl Tryz.underlying41 rfl sz41 rfl) ?_; simp only [N]
      refine wl_storeA H 2 rfl rfl rfl rfl ((v20.1.take 42 ++ ((s.drop 42).take 96) ++ v20.1.drop (42 + ((s.drop 42).take 96).length)).take 138 ++ ((s.drop 138).take 4) ++ (v20.1.take 42 ++ ((s.drop 42).take 96) ++ v20.1.drop (42 + ((s.drop 42).take 96).length)).drop (138 + ((s.drop 138).take 4).length)) rfl sz41 ?_
      clear H; intro w26 H; simp only [M] at H
      simp only [N]
      refine wpList_nil ?_
      refine wp_ret ?_
      try simp only [Exit.inBlock, Exit.then, cutP]
      refine bodyPost_ret (results1 rfl (rv_aggA H 2 rfl rfl Tryz.underlying41 rfl sz41)) rfl ?_
      have hF : (aloneF p s t) = ((v20.1.take 42 ++ ((s.drop 42).take 96) ++ v20.1.drop (42 + ((s.drop 42).take 96).length)).take 138 ++ ((s.drop 138).take 4) ++ (v20.1.take 42 ++ ((s.drop 42).take 96) ++ v20.1.drop (42 + ((s.drop 42).take 96).length)).drop (138 + ((s.drop 138).take 4).length)) := hFv20
      rw [hF]
      exact ⟨rfl, H.ext⟩
    ·
     refine wl_storeNA H 0 rfl rfl rfl rfl ((s.drop 42).take 96) rfl sz38 42 rfl ?_
     clear H; intro w27 H; simp only [M] at H
     simp only [N]
     refine wpList_nil ?_
     refine wa_1 2 rfl (by kernel_rfl) ?_
     refine wr (rp_fieldAddr rfl Tryz.underlying41 rfl 138 rfl sz39 rfl 138 rfl) ?_; simp only [N]
     refine wpList_nil ?_
     refine wa_1 3 rfl (by kernel_rfl) ?_
     refine wr (rp_loadNA H 3 rfl rfl rfl Tryz.underlying39 rfl sz39 138) ?_; simp only [N]
     refine wpList_nil ?_
     refine wa_tail 6 _ rfl rfl (by kernel_rfl) ?_
     refine wr (rp_fieldAddr rfl Tryz.underlying41 rfl 138 rfl sz39 rfl 138 rfl) ?_; simp only [N]
     refine wl_storeNA H 0 rfl rfl rfl rfl ((s.drop 138).take 4) rfl sz39 138 rfl ?_
     clear H; intro w28 H; simp only [M] at H
     simp only [N]
     refine wnr ?_
     refine wr (rp_loadWA H 0 rfl rfl rfl Tryz.underlying41 rfl sz41 rfl) ?_; simp only [N]
     refine wl_storeA H 2 rfl rfl rfl rfl ((v20.1.take 42 ++ ((s.drop 42).take 96) ++ v20.1.drop (42 + ((s.drop 42).take 96).length)).take 138 ++ ((s.drop 138).take 4) ++ (v20.1.take 42 ++ ((s.drop 42).take 96) ++ v20.1.drop (42 + ((s.drop 42).take 96).length)).drop (138 + ((s.drop 138).take 4).length)) rfl sz41 ?_
     clear H; intro w29 H; simp only [M] at H
     simp only [N]
     refine wpList_nil ?_
     refine wp_ret ?_
     try simp only [Exit.inBlock, Exit.then, cutP]
     refine bodyPost_ret (results1 rfl (rv_aggA H 2 rfl rfl Tryz.underlying41 rfl sz41)) rfl ?_
     have hF : (aloneF p s t) = ((v20.1.take 42 ++ ((s.drop 42).take 96) ++ v20.1.drop (42 + ((s.drop 42).take 96).length)).take 138 ++ ((s.drop 138).take 4) ++ (v20.1.take 42 ++ ((s.drop 42).take 96) ++ v20.1.drop (42 + ((s.drop 42).take 96).length)).drop (138 + ((s.drop 138).take 4).length)) := hFv20
     rw [hF]
     exact ⟨rfl, H.ext⟩
  ·
   refine wr (rp_fieldAddr rfl Tryz.underlying41 rfl 138 rfl sz39 rfl 138 rfl) ?_; simp only [N]
   refine wpList_nil ?_
   refine wa_2 1 3 rfl rfl (by kernel_rfl) ?_ ?_
   ·
    refine wr (rp_loadNA H 3 rfl rfl rfl Tryz.underlying38 rfl sz38 42) ?_; simp only [N]
    refine wpList_nil ?_
    refine wa_2 3 4 rfl rfl (by kernel_rfl) ?_ ?_
    ·
     refine wr (rp_loadNA H 3 rfl rfl rfl Tryz.underlying39 rfl sz39 138) ?_; simp only [N]
     refine wpList_nil ?_
     refine wa_tail 4 _ rfl rfl (by kernel_rfl) ?_
     refine wr (rp_fieldAddr rfl Tryz.underlying41 rfl 42 rfl sz38 rfl 42 rfl) ?_; simp only [N]
     refine wl_storeNA H 0 rfl rfl rfl rfl ((s.drop 42).take 96) rfl sz38 42 rfl ?_
     clear H; intro w30 H; simp only [M] at H
     simp only [N]
     refine wr (rp_fieldAddr rfl Tryz.underlying41 rfl 138 rfl sz39 rfl 138 rfl) ?_; simp only [N]
     refine wl_storeNA H 0 rfl rfl rfl rfl ((s.drop 138).take 4) rfl sz39 138 rfl ?_
     clear H; intro w31 H; simp only [M] at H
     simp only [N]
     refine wnr ?_
     refine wr (rp_loadWA H 0 rfl rfl rfl Tryz.underlying41 rfl sz41 rfl) ?_; simp only [N]
     refine wl_storeA H 2 rfl rfl rfl rfl ((v20.1.take 42 ++ ((s.drop 42).take 96) ++ v20.1.drop (42 + ((s.drop 42).take 96).length)).take 138 ++ ((s.drop 138).take 4) ++ (v20.1.take 42 ++ ((s.drop 42).take 96) ++ v20.1.drop (42 + ((s.drop 42).take 96).length)).drop (138 + ((s.drop 138).take 4).length)) rfl sz41 ?_
     clear H; intro w32 H; simp only [M] at H
     simp only [N]
     refine wpList_nil ?_
     refine wp_ret ?_
     try simp only [Exit.inBlock, Exit.then, cutP]
     refine bodyPost_ret (results1 rfl (rv_aggA H 2 rfl rfl Tryz.underlying41 rfl sz41)) rfl ?_
     have hF : (aloneF p s t) = ((v20.1.take 42 ++ ((s.drop 42).take 96) ++ v20.1.drop (42 + ((s.drop 42).take 96).length)).take 138 ++ ((s.drop 138).take 4) ++ (v20.1.take 42 ++ ((s.drop 42).take 96) ++ v20.1.drop (42 + ((s.drop 42).take 96).length)).drop (138 + ((s.drop 138).take 4).length)) := hFv20
     rw [hF]
     exact ⟨rfl, H.ext⟩
    ·
     refine wr (rp_fieldAddr rfl Tryz.underlying41 rfl 42 rfl sz38 rfl 42 rfl) ?_; simp only [N]
     refine wpList_nil ?_
     refine wa_2 3 5 rfl rfl (by kernel_rfl) ?_ ?_
     ·
      refine wr (rp_loadNA H 3 rfl rfl rfl Tryz.underlying39 rfl sz39 138) ?_; simp only [N]
      refine wpList_nil ?_
      refine wa_tail 5 _ rfl rfl (by kernel_rfl) ?_
      refine wl_storeNA H 0 rfl rfl rfl rfl ((s.drop 42).take 96) rfl sz38 42 rfl ?_
      clear H; intro w33 H; simp only [M] at H
      simp only [N]
      refine wr (rp_fieldAddr rfl Tryz.underlying41 rfl 138 rfl sz39 rfl 138 rfl) ?_; simp only [N]
      refine wl_storeNA H 0 rfl rfl rfl rfl ((s.drop 138).take 4) rfl sz39 138 rfl ?_
      clear H; intro w34 H; simp only [M] at H
      simp only [N]
      refine wnr ?_
      refine wr (rp_loadWA H 0 rfl rfl rfl Tryz.underlying41 rfl sz41 rfl) ?_; simp only [N]
      refine wl_storeA H 2 rfl rfl rfl rfl ((v20.1.take 42 ++ ((s.drop 42).take 96) ++ v20.1.drop (42 + ((s.drop 42).take 96).length)).take 138 ++ ((s.drop 138).take 4) ++ (v20.1.take 42 ++ ((s.drop 42).take 96) ++ v20.1.drop (42 + ((s.drop 42).take 96).length)).drop (138 + ((s.drop 138).take 4).length)) rfl sz41 ?_
      clear H; intro w35 H; simp only [M] at H
      simp only [N]
      refine wpList_nil ?_
      refine wp_ret ?_
      try simp only [Exit.inBlock, Exit.then, cutP]
      refine bodyPost_ret (results1 rfl (rv_aggA H 2 rfl rfl Tryz.underlying41 rfl sz41)) rfl ?_
      have hF : (aloneF p s t) = ((v20.1.take 42 ++ ((s.drop 42).take 96) ++ v20.1.drop (42 + ((s.drop 42).take 96).length)).take 138 ++ ((s.drop 138).take 4) ++ (v20.1.take 42 ++ ((s.drop 42).take 96) ++ v20.1.drop (42 + ((s.drop 42).take 96).length)).drop (138 + ((s.drop 138).take 4).length)) := hFv20
      rw [hF]
      exact ⟨rfl, H.ext⟩
     ·
      refine wl_storeNA H 0 rfl rfl rfl rfl ((s.drop 42).take 96) rfl sz38 42 rfl ?_
      clear H; intro w36 H; simp only [M] at H
      simp only [N]
      refine wpList_nil ?_
      refine wa_1 3 rfl (by kernel_rfl) ?_
      refine wr (rp_loadNA H 3 rfl rfl rfl Tryz.underlying39 rfl sz39 138) ?_; simp only [N]
      refine wpList_nil ?_
      refine wa_tail 6 _ rfl rfl (by kernel_rfl) ?_
      refine wr (rp_fieldAddr rfl Tryz.underlying41 rfl 138 rfl sz39 rfl 138 rfl) ?_; simp only [N]
      refine wl_storeNA H 0 rfl rfl rfl rfl ((s.drop 138).take 4) rfl sz39 138 rfl ?_
      clear H; intro w37 H; simp only [M] at H
      simp only [N]
      refine wnr ?_
      refine wr (rp_loadWA H 0 rfl rfl rfl Tryz.underlying41 rfl sz41 rfl) ?_; simp only [N]
      refine wl_storeA H 2 rfl rfl rfl rfl ((v20.1.take 42 ++ ((s.drop 42).take 96) ++ v20.1.drop (42 + ((s.drop 42).take 96).length)).take 138 ++ ((s.drop 138).take 4) ++ (v20.1.take 42 ++ ((s.drop 42).take 96) ++ v20.1.drop (42 + ((s.drop 42).take 96).length)).drop (138 + ((s.drop 138).take 4).length)) rfl sz41 ?_
      clear H; intro w38 H; simp only [M] at H
      simp only [N]
      refine wpList_nil ?_
      refine wp_ret ?_
      try simp only [Exit.inBlock, Exit.then, cutP]
      refine bodyPost_ret (results1 rfl (rv_aggA H 2 rfl rfl Tryz.underlying41 rfl sz41)) rfl ?_
      have hF : (aloneF p s t) = ((v20.1.take 42 ++ ((s.drop 42).take 96) ++ v20.1.drop (42 + ((s.drop 42).take 96).length)).take 138 ++ ((s.drop 138).take 4) ++ (v20.1.take 42 ++ ((s.drop 42).take 96) ++ v20.1.drop (42 + ((s.drop 42).take 96).length)).drop (138 + ((s.drop 138).take 4).length)) := hFv20
      rw [hF]
      exact ⟨rfl, H.ext⟩
   ·
    refine wr (rp_loadNA H 3 rfl rfl rfl Tryz.underlying39 rfl sz39 138) ?_; simp only [N]
    refine wpList_nil ?_
    refine wa_1 1 rfl (by kernel_rfl) ?_
    refine wr (rp_loadNA H 3 rfl rfl rfl Tryz.underlying38 rfl sz38 42) ?_; simp only [N]
    refine wpList_nil ?_
    refine wa_tail 4 _ rfl rfl (by kernel_rfl) ?_
    refine wr (rp_fieldAddr rfl Tryz.underlying41 rfl 42 rfl sz38 rfl 42 rfl) ?_; simp only [N]
    refine wl_storeNA H 0 rfl rfl rfl rfl ((s.drop 42).take 96) rfl sz38 42 rfl ?_
    clear H; intro w39 H; simp only [M] at H
    simp only [N]
    refine wr (rp_fieldAddr rfl Tryz.underlying41 rfl 138 rfl sz39 rfl 138 rfl) ?_; simp only [N]
    refine wl_storeNA H 0 rfl rfl rfl rfl ((s.drop 138).take 4) rfl sz39 138 rfl ?_
    clear H; intro w40 H; simp only [M] at H
    simp only [N]
    refine wnr ?_
    refine wr (rp_loadWA H 0 rfl rfl rfl Tryz.underlying41 rfl sz41 rfl) ?_; simp only [N]
    refine wl_storeA H 2 rfl rfl rfl rfl ((v20.1.take 42 ++ ((s.drop 42).take 96) ++ v20.1.drop (42 + ((s.drop 42).take 96).length)).take 138 ++ ((s.drop 138).take 4) ++ (v20.1.take 42 ++ ((s.drop 42).take 96) ++ v20.1.drop (42 + ((s.drop 42).take 96).length)).drop (138 + ((s.drop 138).take 4).length)) rfl sz41 ?_
    clear H; intro w41 H; simp only [M] at H
    simp only [N]
    refine wpList_nil ?_
    refine wp_ret ?_
    try simp only [Exit.inBlock, Exit.then, cutP]
    refine bodyPost_ret (results1 rfl (rv_aggA H 2 rfl rfl Tryz.underlying41 rfl sz41)) rfl ?_
    have hF : (aloneF p s t) = ((v20.1.take 42 ++ ((s.drop 42).take 96) ++ v20.1.drop (42 + ((s.drop 42).take 96).length)).take 138 ++ ((s.drop 138).take 4) ++ (v20.1.take 42 ++ ((s.drop 42).take 96) ++ v20.1.drop (42 + ((s.drop 42).take 96).length)).drop (138 + ((s.drop 138).take 4).length)) := hFv20
    rw [hF]
    exact ⟨rfl, H.ext⟩
 ·
  refine wr (rp_fieldAddr rfl Tryz.underlying41 rfl 138 rfl sz39 rfl 138 rfl) ?_; simp only [N]
  refine wpList_nil ?_
  refine wa_2 0 3 rfl rfl (by kernel_rfl) ?_ ?_
  ·
   refine wr (rp_fieldAddr rfl Tryz.underlying41 rfl 42 rfl sz38 rfl 42 rfl) ?_; simp only [N]
   refine wpList_nil ?_
   refine wa_2 1 3 rfl rfl (by kernel_rfl) ?_ ?_
   ·
    refine wr (rp_loadNA H 3 rfl rfl rfl Tryz.underlying38 rfl sz38 42) ?_; simp only [N]
    refine wpList_nil ?_
    refine wa_2 3 4 rfl rfl (by kernel_rfl) ?_ ?_
    ·
     refine wr (rp_loadNA H 3 rfl rfl rfl Tryz.underlying39 rfl sz39 138) ?_; simp only [N]
     refine wpList_nil ?_
     refine wa_tail 4 _ rfl rfl (by kernel_rfl) ?_
     refine wr (rp_fieldAddr rfl Tryz.underlying41 rfl 42 rfl sz38 rfl 42 rfl) ?_; simp only [N]
     refine wl_storeNA H 0 rfl rfl rfl rfl ((s.drop 42).take 96) rfl sz38 42 rfl ?_
     clear H; intro w42 H; simp only [M] at H
     simp only [N]
     refine wr (rp_fieldAddr rfl Tryz.underlying41 rfl 138 rfl sz39 rfl 138 rfl) ?_; simp only [N]
     refine wl_storeNA H 0 rfl rfl rfl rfl ((s.drop 138).take 4) rfl sz39 138 rfl ?_
     clear H; intro w43 H; simp only [M] at H
     simp only [N]
     refine wnr ?_
     refine wr (rp_loadWA H 0 rfl rfl rfl Tryz.underlying41 rfl sz41 rfl) ?_; simp only [N]
     refine wl_storeA H 2 rfl rfl rfl rfl ((v20.1.take 42 ++ ((s.drop 42).take 96) ++ v20.1.drop (42 + ((s.drop 42).take 96).length)).take 138 ++ ((s.drop 138).take 4) ++ (v20.1.take 42 ++ ((s.drop 42).take 96) ++ v20.1.drop (42 + ((s.drop 42).take 96).length)).drop (138 + ((s.drop 138).take 4).length)) rfl sz41 ?_
     clear H; intro w44 H; simp only [M] at H
     simp only [N]
     refine wpList_nil ?_
     refine wp_ret ?_
     try simp only [Exit.inBlock, Exit.then, cutP]
     refine bodyPost_ret (results1 rfl (rv_aggA H 2 rfl rfl Tryz.underlying41 rfl sz41)) rfl ?_
     have hF : (aloneF p s t) = ((v20.1.take 42 ++ ((s.drop 42).take 96) ++ v20.1.drop (42 + ((s.drop 42).take 96).length)).take 138 ++ ((s.drop 138).take 4) ++ (v20.1.take 42 ++ ((s.drop 42).take 96) ++ v20.1.drop (42 + ((s.drop 42).take 96).length)).drop (138 + ((s.drop 138).take 4).length)) := hFv20
     rw [hF]
     exact ⟨rfl, H.ext⟩
    ·
     refine wr (rp_fieldAddr rfl Tryz.underlying41 rfl 42 rfl sz38 rfl 42 rfl) ?_; simp only [N]
     refine wpList_nil ?_
     refine wa_2 3 5 rfl rfl (by kernel_rfl) ?_ ?_
     ·
      refine wr (rp_loadNA H 3 rfl rfl rfl Tryz.underlying39 rfl sz39 138) ?_; simp only [N]
      refine wpList_nil ?_
      refine wa_tail 5 _ rfl rfl (by kernel_rfl) ?_
      refine wl_storeNA H 0 rfl rfl rfl rfl ((s.drop 42).take 96) rfl sz38 42 rfl ?_
      clear H; intro w45 H; simp only [M] at H
      simp only [N]
      refine wr (rp_fieldAddr rfl Tryz.underlying41 rfl 138 rfl sz39 rfl 138 rfl) ?_; simp only [N]
      refine wl_storeNA H 0 rfl rfl rfl rfl ((s.drop 138).take 4) rfl sz39 138 rfl ?_
      clear H; intro w46 H; simp only [M] at H
      simp only [N]
      refine wnr ?_
      refine wr (rp_loadWA H 0 rfl rfl rfl Tryz.underlying41 rfl sz41 rfl) ?_; simp only [N]
      refine wl_storeA H 2 rfl rfl rfl rfl ((v20.1.take 42 ++ ((s.drop 42).take 96) ++ v20.1.drop (42 + ((s.drop 42).take 96).length)).take 138 ++ ((s.drop 138).take 4) ++ (v20.1.take 42 ++ ((s.drop 42).take 96) ++ v20.1.drop (42 + ((s.drop 42).take 96).length)).drop (138 + ((s.drop 138).take 4).length)) rfl sz41 ?_
      clear H; intro w47 H; simp only [M] at H
      simp only [N]
      refine wpList_nil ?_
      refine wp_ret ?_
      try simp only [Exit.inBlock, Exit.then, cutP]
      refine bodyPost_ret (results1 rfl (rv_aggA H 2 rfl rfl Tryz.underlying41 rfl sz41)) rfl ?_
      have hF : (aloneF p s t) = ((v20.1.take 42 ++ ((s.drop 42).take 96) ++ v20.1.drop (42 + ((s.drop 42).take 96).length)).take 138 ++ ((s.drop 138).take 4) ++ (v20.1.take 42 ++ ((s.drop 42).take 96) ++ v20.1.drop (42 + ((s.drop 42).take 96).length)).drop (138 + ((s.drop 138).take 4).length)) := hFv20
      rw [hF]
      exact ⟨rfl, H.ext⟩
     ·
      refine wl_storeNA H 0 rfl rfl rfl rfl ((s.drop 42).take 96) rfl sz38 42 rfl ?_
      clear H; intro w48 H; simp only [M] at H
      simp only [N]
      refine wpList_nil ?_
      refine wa_1 3 rfl (by kernel_rfl) ?_
      refine wr (rp_loadNA H 3 rfl rfl rfl Tryz.underlying39 rfl sz39 138) ?_; simp only [N]
      refine wpList_nil ?_
      refine wa_tail 6 _ rfl rfl (by kernel_rfl) ?_
      refine wr (rp_fieldAddr rfl Tryz.underlying41 rfl 138 rfl sz39 rfl 138 rfl) ?_; simp only [N]
      refine wl_storeNA H 0 rfl rfl rfl rfl ((s.drop 138).take 4) rfl sz39 138 rfl ?_
      clear H; intro w49 H; simp only [M] at H
      simp only [N]
      refine wnr ?_
      refine wr (rp_loadWA H 0 rfl rfl rfl Tryz.underlying41 rfl sz41 rfl) ?_; simp only [N]
      refine wl_storeA H 2 rfl rfl rfl rfl ((v20.1.take 42 ++ ((s.drop 42).take 96) ++ v20.1.drop (42 + ((s.drop 42).take 96).length)).take 138 ++ ((s.drop 138).take 4) ++ (v20.1.take 42 ++ ((s.drop 42).take 96) ++ v20.1.drop (42 + ((s.drop 42).take 96).length)).drop (138 + ((s.drop 138).take 4).length)) rfl sz41 ?_
      clear H; intro w50 H; simp only [M] at H
      simp only [N]
      refine wpList_nil ?_
      refine wp_ret ?_
      try simp only [Exit.inBlock, Exit.then, cutP]
      refine bodyPost_ret (results1 rfl (rv_aggA H 2 rfl rfl Tryz.underlying41 rfl sz41)) rfl ?_
      have hF : (aloneF p s t) = ((v20.1.take 42 ++ ((s.drop 42).take 96) ++ v20.1.drop (42 + ((s.drop 42).take 96).length)).take 138 ++ ((s.drop 138).take 4) ++ (v20.1.take 42 ++ ((s.drop 42).take 96) ++ v20.1.drop (42 + ((s.drop 42).take 96).length)).drop (138 + ((s.drop 138).take 4).length)) := hFv20
      rw [hF]
      exact ⟨rfl, H.ext⟩
   ·
    refine wr (rp_loadNA H 3 rfl rfl rfl Tryz.underlying39 rfl sz39 138) ?_; simp only [N]
    refine wpList_nil ?_
    refine wa_1 1 rfl (by kernel_rfl) ?_
    refine wr (rp_loadNA H 3 rfl rfl rfl Tryz.underlying38 rfl sz38 42) ?_; simp only [N]
    refine wpList_nil ?_
    refine wa_tail 4 _ rfl rfl (by kernel_rfl) ?_
    refine wr (rp_fieldAddr rfl Tryz.underlying41 rfl 42 rfl sz38 rfl 42 rfl) ?_; simp only [N]
    refine wl_storeNA H 0 rfl rfl rfl rfl ((s.drop 42).take 96) rfl sz38 42 rfl ?_
    clear H; intro w51 H; simp only [M] at H
    simp only [N]
    refine wr (rp_fieldAddr rfl Tryz.underlying41 rfl 138 rfl sz39 rfl 138 rfl) ?_; simp only [N]
    refine wl_storeNA H 0 rfl rfl rfl rfl ((s.drop 138).take 4) rfl sz39 138 rfl ?_
    clear H; intro w52 H; simp only [M] at H
    simp only [N]
    refine wnr ?_
    refine wr (rp_loadWA H 0 rfl rfl rfl Tryz.underlying41 rfl sz41 rfl) ?_; simp only [N]
    refine wl_storeA H 2 rfl rfl rfl rfl ((v20.1.take 42 ++ ((s.drop 42).take 96) ++ v20.1.drop (42 + ((s.drop 42).take 96).length)).take 138 ++ ((s.drop 138).take 4) ++ (v20.1.take 42 ++ ((s.drop 42).take 96) ++ v20.1.drop (42 + ((s.drop 42).take 96).length)).drop (138 + ((s.drop 138).take 4).length)) rfl sz41 ?_
    clear H; intro w53 H; simp only [M] at H
    simp only [N]
    refine wpList_nil ?_
    refine wp_ret ?_
    try simp only [Exit.inBlock, Exit.then, cutP]
    refine bodyPost_ret (results1 rfl (rv_aggA H 2 rfl rfl Tryz.underlying41 rfl sz41)) rfl ?_
    have hF : (aloneF p s t) = ((v20.1.take 42 ++ ((s.drop 42).take 96) ++ v20.1.drop (42 + ((s.drop 42).take 96).length)).take 138 ++ ((s.drop 138).take 4) ++ (v20.1.take 42 ++ ((s.drop 42).take 96) ++ v20.1.drop (42 + ((s.drop 42).take 96).length)).drop (138 + ((s.drop 138).take 4).length)) := hFv20
    rw [hF]
    exact ⟨rfl, H.ext⟩
  ·
   refine wr (rp_loadNA H 3 rfl rfl rfl Tryz.underlying39 rfl sz39 138) ?_; simp only [N]
   refine wpList_nil ?_
   refine wa_1 0 rfl (by kernel_rfl) ?_
   refine wr (rp_fieldAddr rfl Tryz.underlying41 rfl 42 rfl sz38 rfl 42 rfl) ?_; simp only [N]
   refine wpList_nil ?_
   refine wa_1 1 rfl (by kernel_rfl) ?_
   refine wr (rp_loadNA H 3 rfl rfl rfl Tryz.underlying38 rfl sz38 42) ?_; simp only [N]
   refine wpList_nil ?_
   refine wa_tail 4 _ rfl rfl (by kernel_rfl) ?_
   refine wr (rp_fieldAddr rfl Tryz.underlying41 rfl 42 rfl sz38 rfl 42 rfl) ?_; simp only [N]
   refine wl_storeNA H 0 rfl rfl rfl rfl ((s.drop 42).take 96) rfl sz38 42 rfl ?_
   clear H; intro w54 H; simp only [M] at H
   simp only [N]
   refine wr (rp_fieldAddr rfl Tryz.underlying41 rfl 138 rfl sz39 rfl 138 rfl) ?_; simp only [N]
   refine wl_storeNA H 0 rfl rfl rfl rfl ((s.drop 138).take 4) rfl sz39 138 rfl ?_
   clear H; intro w55 H; simp only [M] at H
   simp only [N]
   refine wnr ?_
   refine wr (rp_loadWA H 0 rfl rfl rfl Tryz.underlying41 rfl sz41 rfl) ?_; simp only [N]
   refine wl_storeA H 2 rfl rfl rfl rfl ((v20.1.take 42 ++ ((s.drop 42).take 96) ++ v20.1.drop (42 + ((s.drop 42).take 96).length)).take 138 ++ ((s.drop 138).take 4) ++ (v20.1.take 42 ++ ((s.drop 42).take 96) ++ v20.1.drop (42 + ((s.drop 42).take 96).length)).drop (138 + ((s.drop 138).take 4).length)) rfl sz41 ?_
   clear H; intro w56 H; simp only [M] at H
   simp only [N]
   refine wpList_nil ?_
   refine wp_ret ?_
   try simp only [Exit.inBlock, Exit.then, cutP]
   refine bodyPost_ret (results1 rfl (rv_aggA H 2 rfl rfl Tryz.underlying41 rfl sz41)) rfl ?_
   have hF : (aloneF p s t) = ((v20.1.take 42 ++ ((s.drop 42).take 96) ++ v20.1.drop (42 + ((s.drop 42).take 96).length)).take 138 ++ ((s.drop 138).take 4) ++ (v20.1.take 42 ++ ((s.drop 42).take 96) ++ v20.1.drop (42 + ((s.drop 42).take 96).length)).drop (138 + ((s.drop 138).take 4).length)) := hFv20
   rw [hF]
   exact ⟨rfl, H.ext⟩

def bGoesF_a (t : UInt8) (ab2 : List UInt8) : (List UInt8) :=
  (ab2.set (t.toNat * 9) ((ab2.getD (t.toNat * 9) 0) + (1 : UInt8)))
def bGoesF_v38 (p : Prog) (s : List UInt8) (t : UInt8) (v38 : UInt8) : (List UInt8) :=
  bGoesF_a t (s.set (t.toNat * 9 + 1 + (((p.threads.l.getD (t.toNat) default).l.getD ((s.getD (t.toNat * 9) 0).toNat) default).dst).toNat) v38)
def bGoesF_v65 (t : UInt8) (v65 : (List UInt8)) : (List UInt8) :=
  bGoesF_a t v65
def bGoesF (p : Prog) (mach : UInt8) (s : List UInt8) (t : UInt8) : (List UInt8) :=
  bif (((p.threads.l.getD (t.toNat) default).l.getD ((s.getD (t.toNat * 9) 0).toNat) default).op == (1 : UInt8)) then (bGoesF_v38 p s t (seenF s (t.toNat : Int) (((p.threads.l.getD (t.toNat) default).l.getD ((s.getD (t.toNat * 9) 0).toNat) default).loc))) else (bif ((((p.threads.l.getD (t.toNat) default).l.getD ((s.getD (t.toNat * 9) 0).toNat) default).op == (2 : UInt8)) && (mach != (1 : UInt8))) then (bGoesF_v65 t (keepF mach s t ([((p.threads.l.getD (t.toNat) default).l.getD ((s.getD (t.toNat * 9) 0).toNat) default).loc, (worth ((p.threads.l.getD (t.toNat) default).l.getD ((s.getD (t.toNat * 9) 0).toNat) default).a ((s.drop (t.toNat * 9 + 1)).take 8))]))) else (aloneF p s t))

@[simp] theorem bGoesF_len (p : Prog) (mach : UInt8) (s : List UInt8) (t : UInt8) (hs : s.length = 142) (hv : BValid p mach s) (ht : t.toNat < p.threads.l.length) (hpc : (s.getD (t.toNat * 9) 0).toNat < (p.threads.l.getD t.toNat default).l.length) : (bGoesF p mach s t).length = 142 := by
  have htl := hv.ok.threads
  have hi12 := (hv.ok.at ht hpc).1
  have hmy := hv.many t.toNat (by omega)
  simp only [bGoesF, bGoesF_a, bGoesF_v38, bGoesF_v65, Bool.cond_eq_ite]
  split
  · rw [List.length_set, List.length_set, hs]
  · split
    · rw [List.length_set]; exact keepF_len _ _ _ _ hs rfl (by omega) (by omega)
    · exact aloneF_len _ _ _ hs

theorem bGoesF_spec (p : Prog) (mach : UInt8) (s : List UInt8) (t : UInt8) (hs : s.length = 142) (hv : BValid p mach s) (ht : t.toNat < p.threads.l.length) (hpc : (s.getD (t.toNat * 9) 0).toNat < (p.threads.l.getD t.toNat default).l.length) (w : World) (hp : (IsProg p) w) (hg_ : Glob w) :
    Calls Tryz.prog 56 #[.agg p.cells.toArray, bv mach, .agg (enc s).toArray, bv t] w fun e w' => e = .returned (.agg (enc (bGoesF p mach s t)).toArray) ∧ Ext w w' := by
 have H := Own.start_ro w [IsProg p, Glob] (List.forall_mem_cons.2 ⟨fun w' hw => hp.keep hw, List.forall_mem_cons.2 ⟨fun w' hw => hg_.keep hw, fun _ h => by cases h⟩⟩)
 have hcp1 := hp.locs.2.2
 have hcp2 := hp.init.2.2
 have hcp3 := hp.threads.2.2
 have hr := hv.ok
 have htl := hr.threads
 have hat := hr.at ht hpc
 have hi12 := hat.1
 have hdst : ((p.threads.l.getD t.toNat default).l.getD (s.getD (t.toNat * 9) 0).toNat default).dst.toNat < 8 := UInt8.lt_iff_toNat_lt.1 hat.2.dst
 have hloc6 : ((p.threads.l.getD t.toNat default).l.getD (s.getD (t.toNat * 9) 0).toNat default).loc.toNat < 6 := hat.2.loc
 have hmy := hv.many t.toNat (by omega)
 have hkl : ∀ x : List UInt8, x.length = 2 → (keepF mach s t x).length = 142 := fun x hx => keepF_len _ _ _ _ hs hx (by omega) (by omega)
 go_enter Tryz.func56, Tryz.ntmps56
 refine wsr ?_
 refine wl_box H rfl rfl (v := .agg (p.cells).toArray) rfl ?_
 clear H; intro b1 w1 hnb1 H; dsimp only [Value.cells] at H
 simp only [N]
 refine wl_box H rfl rfl (v := .agg (enc s).toArray) rfl ?_
 clear H; intro b2 w2 hnb2 H; dsimp only [Value.cells] at H
 simp only [N]
 refine wl_alloc H rfl rfl zv41 ?_
 clear H; intro b3 w3 hnb3 H; dsimp only [Value.cells] at H
 simp only [N]
 simp only [enc_replicate] at H
 refine wpList_nil ?_
 refine wp_seq ?_; refine wp_region_mix 14 H (by kernel_rfl) ?_
 refine wxl_tk 0 rfl (xy_run rfl (fun w H => rp_fieldAddr rfl Tryz.underlying29 rfl 3 rfl sz24 rfl 3 rfl)) ?_; simp only [N]
 refine wxl_tk 1 rfl (xy_run rfl (fun w H => rp_load1 H 2 rfl rfl rfl Tryz.underlying24 rfl (v := p.threads.val) rfl)) ?_; simp only [N]
 refine wxl_tk 2 rfl (xy_run rfl (fun w H => rp_move rfl (v := bv t) rfl)) ?_; simp only [N]
 refine wxl_tk 3 rfl (xy_run rfl (fun w H => rp_indexAddr_sl (IsProg.threads (H.ro_at 0 rfl)) rfl Tryz.underlying24 sz59 rfl t.toNat rfl (by omega))) ?_; simp only [N]
 refine wxl_tk 4 rfl (xy_run rfl (fun w H => rp_load1_sl (IsProg.threads (H.ro_at 0 rfl)) (t.toNat) (by omega) rfl Tryz.underlying59 rfl 0 rfl (by omega) (v := (p.threads.l.getD (t.toNat) default).val) rfl)) ?_; simp only [N]
 refine wxl_tk 5 rfl (xy_run rfl (fun w H => rp_move rfl (v := bv t) rfl)) ?_; simp only [N]
 refine wxl_tk 6 rfl (xy_run rfl (fun w H => rp_fieldAddr rfl Tryz.underlying41 rfl 0 rfl sz33 rfl 0 rfl)) ?_; simp only [N]
 refine wxl_tk 7 rfl (xy_run rfl (fun w H => rp_indexAddr_arr rfl Tryz.underlying33 sz32 rfl t.toNat rfl (by omega) (t.toNat * 9) (by omega))) ?_; simp only [N]
 refine wxl_tk 8 rfl (xy_run rfl (fun w H => rp_fieldAddr rfl Tryz.underlying32 rfl 0 rfl sz5 rfl (t.toNat * 9) (by omega))) ?_; simp only [N]
 refine wxl_tk 9 rfl (xy_run rfl (fun w H => rp_load1A H 1 rfl rfl rfl Tryz.underlying5 rfl (t.toNat * 9) rfl)) ?_; simp only [N]
 refine wxl_tk 10 rfl (xy_run rfl (fun w H => rp_indexAddr_sl (IsProg.ins_at (H.ro_at 0 rfl) (t := t.toNat) (by omega)) rfl Tryz.underlying59 sz58 rfl (s.getD (t.toNat * 9) 0).toNat rfl (by omega))) ?_; simp only [N]
 refine wxl_tk 11 rfl (xy_run rfl (fun w H => rp_loadN_sl (IsProg.ins_at (H.ro_at 0 rfl) (t := t.toNat) (by omega)) ((s.getD (t.toNat * 9) 0).toNat) (by omega) rfl Tryz.underlying58 rfl rfl sz58)) ?_; simp only [N]
 refine wxl_alloc 12 rfl rfl (by kernel_rfl) rfl (xa_alloc rfl zv58) ?_
 intro bd9
 simp only [N, M, Value.cells]
 refine wxl_store 13 0 rfl rfl (by kernel_rfl) rfl rfl (xs_whole rfl rfl (vs := (((p.threads.l.getD (t.toNat) default).l.getD ((s.getD (t.toNat * 9) 0).toNat) default).cells).toArray) rfl (Ins.cells_one _) (by first | exact sz58 | (rw [sz58]; congr 1; first | omega | simp [-List.reduceReplicate] <;> omega | simp [*, -List.reduceReplicate] <;> omega)) (by first | rfl | first | omega | simp [-List.reduceReplicate] <;> omega | simp [*, -List.reduceReplicate] <;> omega)) ?_
 simp only [N, M, Value.cells]
 refine wpX_done (by kernel_rfl) ?_ _
 clear H; intro w4 H; simp only [List.cons_append, List.nil_append] at H
 refine wp_seq ?_; refine wp_cutX (fun a' w' => ∃ (ab2 : List UInt8), a' = ⟨#[(tq a' 0), bv mach, (tq a' 2), bv t, (tq a' 4), uU, .pointer (some ⟨b2, 0, none⟩), uU, .pointer (some ⟨b3, 0, none⟩), (tq a' 9), (tq a' 10), (tq a' 11), bv t, (tq a' 13), (tq a' 14), bv t, (tq a' 16), (tq a' 17), (tq a' 18), (tq a' 19), (tq a' 20), (tq a' 21), (tq a' 22), (tq a' 23), (tq a' 24), (tq a' 25), (tq a' 26), (tq a' 27), (tq a' 28), (tq a' 29), (tq a' 30), (tq a' 31), (tq a' 32), (tq a' 33), (tq a' 34), (tq a' 35), (tq a' 36), (tq a' 37), (tq a' 38), (tq a' 39), (tq a' 40), (tq a' 41), (tq a' 42), (tq a' 43), (tq a' 44), (tq a' 45), (tq a' 46), (tq a' 47), (tq a' 48), (tq a' 49), (tq a' 50), (tq a' 51), (tq a' 52), (tq a' 53), (tq a' 54), (tq a' 55), (tq a' 56), (tq a' 57), (tq a' 58), (tq a' 59), (tq a' 60), (tq a' 61), (tq a' 62), (tq a' 63), (tq a' 64), (tq a' 65), uU, uU, uU, uU, uU, uU, uU, uU, uU, uU], []⟩ ∧ Own w [] [IsProg p, Glob] [.blk bd9 (.cells (((p.threads.l.getD (t.toNat) default).l.getD ((s.getD (t.toNat * 9) 0).toNat) default).cells).toArray 58 (0, 0)), .blk b3 (.cells (enc (List.replicate 142 (0 : UInt8))).toArray 41 (0, 0)), .blk b2 (.cells (enc ab2).toArray 41 (0, 0)), .blk b1 (.cells (p.cells).toArray 29 (0, 0))] w' ∧ (ab2.length = 142) ∧ (bGoesF p mach s t) = bGoesF_a t ab2) ?_ ?_
 ·
  refine wp_block ?_
  refine wsr ?_
  refine wr (rp_fieldAddr rfl Tryz.underlying58 rfl 0 rfl sz5 rfl 0 rfl) ?_; simp only [N]
  refine wr (rp_load1 H 0 rfl rfl rfl Tryz.underlying5 rfl (v := bv ((p.threads.l.getD (t.toNat) default).l.getD ((s.getD (t.toNat * 9) 0).toNat) default).op) rfl) ?_; simp only [N]
  refine wr (rp_u8_eql rfl ((p.threads.l.getD (t.toNat) default).l.getD ((s.getD (t.toNat * 9) 0).toNat) default).op (1 : UInt8) rfl rfl) ?_; simp only [N]
  refine wasg (.bool (((p.threads.l.getD (t.toNat) default).l.getD ((s.getD (t.toNat * 9) 0).toNat) default).op == (1 : UInt8))) ?_; simp only [N]
  refine wpList_nil ?_
  refine wp_cond_split rfl (fun hc1 => ?_) (fun hc1 => ?_)
  · --T 1
   have hc1N1 : (((p.threads.l.getD (t.toNat) default).l.getD ((s.getD (t.toNat * 9) 0).toNat) default).op).toNat = 1 := u8_eq hc1
   refine wp_region_mix 13 H (by kernel_rfl) ?_
   refine wxl_tk 0 rfl (xy_run rfl (fun w H => rp_move rfl (v := bv t) rfl)) ?_; simp only [N]
   refine wxl_tk 1 rfl (xy_run rfl (fun w H => rp_fieldAddr rfl Tryz.underlying58 rfl 1 rfl sz5 rfl 1 rfl)) ?_; simp only [N]
   refine wxl_tk 2 rfl (xy_run rfl (fun w H => rp_load1 H 0 rfl rfl rfl Tryz.underlying5 rfl (v := bv ((p.threads.l.getD (t.toNat) default).l.getD ((s.getD (t.toNat * 9) 0).toNat) default).dst) rfl)) ?_; simp only [N]
   refine wxl_tk 3 rfl (xy_run rfl (fun w H => rp_loadWA H 2 rfl rfl rfl Tryz.underlying41 rfl sz41 rfl)) ?_; simp only [N]
   refine wxl_tk 4 rfl (xy_run rfl (fun w H => rp_move rfl (v := bv t) rfl)) ?_; simp only [N]
   refine wxl_tk 5 rfl (xy_run rfl (fun w H => rp_u8_to_int rfl Tryz.underlying5 Tryz.underlying3 t rfl)) ?_; simp only [N]
   refine wxl_tk 6 rfl (xy_run rfl (fun w H => rp_fieldAddr rfl Tryz.underlying58 rfl 2 rfl sz5 rfl 2 rfl)) ?_; simp only [N]
   refine wxl_tk 7 rfl (xy_run rfl (fun w H => rp_load1 H 0 rfl rfl rfl Tryz.underlying5 rfl (v := bv ((p.threads.l.getD (t.toNat) default).l.getD ((s.getD (t.toNat * 9) 0).toNat) default).loc) rfl)) ?_; simp only [N]
   refine wxl_tk 8 rfl (xy_call rfl (rc_go Tryz.func15 (by kernel_rfl) rfl) (fun w H => seenF_spec s (t.toNat : Int) (((p.threads.l.getD (t.toNat) default).l.getD ((s.getD (t.toNat * 9) 0).toNat) default).loc) (by first | omega | simp [-List.reduceReplicate] <;> omega | simp [*, -List.reduceReplicate] <;> omega) _ )) ?_; simp only [N]
   generalize hv38 : (seenF s (t.toNat : Int) (((p.threads.l.getD (t.toNat) default).l.getD ((s.getD (t.toNat * 9) 0).toNat) default).loc)) = v38
   have hFv38 : (bGoesF p mach s t) = bGoesF_v38 p s t v38 := by first | (rw [← hv38]; exact bt hc1) | exact bt hc1
   refine wxl_tk 9 rfl (xy_run rfl (fun w H => rp_fieldAddr rfl Tryz.underlying41 rfl 0 rfl sz33 rfl 0 rfl)) ?_; simp only [N]
   refine wxl_tk 10 rfl (xy_run rfl (fun w H => rp_indexAddr_arr rfl Tryz.underlying33 sz32 rfl t.toNat rfl (by omega) (t.toNat * 9) (by omega))) ?_; simp only [N]
   refine wxl_tk 11 rfl (xy_run rfl (fun w H => rp_fieldAddr rfl Tryz.underlying32 rfl 1 rfl sz30 rfl (t.toNat * 9 + 1) (by omega))) ?_; simp only [N]
   refine wxl_tk 12 rfl (xy_run rfl (fun w H => rp_indexAddr_arr rfl Tryz.underlying30 sz5 rfl (((p.threads.l.getD (t.toNat) default).l.getD ((s.getD (t.toNat * 9) 0).toNat) default).dst).toNat rfl (by omega) (t.toNat * 9 + 1 + (((p.threads.l.getD (t.toNat) default).l.getD ((s.getD (t.toNat * 9) 0).toNat) default).dst).toNat) (by omega))) ?_; simp only [N]
   refine wpX_tail (n := 0) _ rfl rfl (by kernel_rfl) ?_
   clear H; intro w5 H; simp only [List.cons_append, List.nil_append] at H
   refine wl_store1e H 2 rfl rfl rfl rfl v38 rfl sz5 (t.toNat * 9 + 1 + (((p.threads.l.getD (t.toNat) default).l.getD ((s.getD (t.toNat * 9) 0).toNat) default).dst).toNat) rfl (by first | omega | simp [-List.reduceReplicate] <;> omega | simp [*, -List.reduceReplicate] <;> omega) ?_
   clear H; intro w6 H; simp only [M] at H
   simp only [N]
   refine wpList_nil ?_
   exact ⟨(s.set (t.toNat * 9 + 1 + (((p.threads.l.getD (t.toNat) default).l.getD ((s.getD (t.toNat * 9) 0).toNat) default).dst).toNat) v38), (by kernel_rfl), H, (by first | omega | simp [-List.reduceReplicate] <;> omega | simp [*, -List.reduceReplicate] <;> omega), hFv38⟩
  · --F 1
   have hc1N2 : (((p.threads.l.getD (t.toNat) default).l.getD ((s.getD (t.toNat * 9) 0).toNat) default).op).toNat ≠ 1 := u8_ne hc1
   refine wsr ?_
   refine wr (rp_fieldAddr rfl Tryz.underlying58 rfl 0 rfl sz5 rfl 0 rfl) ?_; simp only [N]
   refine wr (rp_load1 H 0 rfl rfl rfl Tryz.underlying5 rfl (v := bv ((p.threads.l.getD (t.toNat) default).l.getD ((s.getD (t.toNat * 9) 0).toNat) default).op) rfl) ?_; simp only [N]
   refine wr (rp_u8_eql rfl ((p.threads.l.getD (t.toNat) default).l.getD ((s.getD (t.toNat * 9) 0).toNat) default).op (2 : UInt8) rfl rfl) ?_; simp only [N]
   refine wmv (.bool (((p.threads.l.getD (t.toNat) default).l.getD ((s.getD (t.toNat * 9) 0).toNat) default).op == (2 : UInt8))) ?_; simp only [N]
   refine wl_g (wn_t rfl rfl) (v := bv mach) (fun hg => rp_move rfl (v := bv mach) rfl) ?_; simp only [N]
   refine wl_g (wn_t rfl rfl) (v := .bool (mach != (1 : UInt8))) (fun hg => by have x4 : (((p.threads.l.getD (t.toNat) default).l.getD ((s.getD (t.toNat * 9) 0).toNat) default).op).toNat = 2 := u8_eq hg; exact (by simp only [gv_t hg]; exact rp_u8_neq rfl mach (1 : UInt8) rfl rfl)) ?_; simp only [N]
   refine wr (rp_pickA rfl (p := (((p.threads.l.getD (t.toNat) default).l.getD ((s.getD (t.toNat * 9) 0).toNat) default).op == (2 : UInt8))) (q := (mach != (1 : UInt8))) rfl rfl rfl) ?_; simp only [N]
   refine wasg (.bool ((((p.threads.l.getD (t.toNat) default).l.getD ((s.getD (t.toNat * 9) 0).toNat) default).op == (2 : UInt8)) && (mach != (1 : UInt8)))) ?_; simp only [N]
   refine wpList_nil ?_
   refine wp_cond_split rfl (fun hc2 => ?_) (fun hc2 => ?_)
   · --T 2
    have hc2N5 : (((p.threads.l.getD (t.toNat) default).l.getD ((s.getD (t.toNat * 9) 0).toNat) default).op).toNat = 2 := u8_eq (andl hc2)
    have hc2N6 : mach.toNat ≠ 1 := u8_ne2 (andr hc2)
    refine wp_region_mix 15 H (by kernel_rfl) ?_
    refine wxl_tk 0 rfl (xy_run rfl (fun w H => rp_move rfl (v := bv mach) rfl)) ?_; simp only [N]
    refine wxl_tk 1 rfl (xy_run rfl (fun w H => rp_loadWA H 2 rfl rfl rfl Tryz.underlying41 rfl sz41 rfl)) ?_; simp only [N]
    refine wxl_tk 2 rfl (xy_run rfl (fun w H => rp_move rfl (v := bv t) rfl)) ?_; simp only [N]
    refine wxl_tk 3 rfl (xy_run rfl (fun w H => rp_fieldAddr rfl Tryz.underlying58 rfl 2 rfl sz5 rfl 2 rfl)) ?_; simp only [N]
    refine wxl_tk 4 rfl (xy_run rfl (fun w H => rp_load1 H 0 rfl rfl rfl Tryz.underlying5 rfl (v := bv ((p.threads.l.getD (t.toNat) default).l.getD ((s.getD (t.toNat * 9) 0).toNat) default).loc) rfl)) ?_; simp only [N]
    refine wxl_tk 5 rfl (xy_run rfl (fun w H => rp_fieldAddr rfl Tryz.underlying58 rfl 3 rfl sz56 rfl 3 rfl)) ?_; simp only [N]
    refine wxl_tk 6 rfl (xy_run rfl (fun w H => rp_loadN H 0 rfl rfl rfl Tryz.underlying56 rfl sz56 (Nat.le_of_ble_eq_true rfl) (cs' := ((p.threads.l.getD (t.toNat) default).l.getD ((s.getD (t.toNat * 9) 0).toNat) default).a.cells) rfl)) ?_; simp only [N]
    refine wxl_tk 7 rfl (xy_run rfl (fun w H => rp_move rfl (v := bv t) rfl)) ?_; simp only [N]
    refine wxl_tk 8 rfl (xy_run rfl (fun w H => rp_fieldAddr rfl Tryz.underlying41 rfl 0 rfl sz33 rfl 0 rfl)) ?_; simp only [N]
    refine wxl_tk 9 rfl (xy_run rfl (fun w H => rp_indexAddr_arr rfl Tryz.underlying33 sz32 rfl t.toNat rfl (by omega) (t.toNat * 9) (by omega))) ?_; simp only [N]
    refine wxl_tk 10 rfl (xy_run rfl (fun w H => rp_fieldAddr rfl Tryz.underlying32 rfl 1 rfl sz30 rfl (t.toNat * 9 + 1) (by omega))) ?_; simp only [N]
    refine wxl_tk 11 rfl (xy_run rfl (fun w H => rp_loadNA H 2 rfl rfl rfl Tryz.underlying30 rfl sz30 (t.toNat * 9 + 1))) ?_; simp only [N]
    refine wxl_tk 12 rfl (xy_call rfl (rc_go Tryz.func16 (by kernel_rfl) rfl) (fun w H => worth_spec ((p.threads.l.getD (t.toNat) default).l.getD ((s.getD (t.toNat * 9) 0).toNat) default).a ((s.drop (t.toNat * 9 + 1)).take 8) (by first | omega | simp [-List.reduceReplicate] <;> omega | simp [*, -List.reduceReplicate] <;> omega) _)) ?_; simp only [N]
    refine wxl_tk 13 rfl (xy_run rfl (fun w H => rp_build rfl (vs := [(0, bv ((p.threads.l.getD (t.toNat) default).l.getD ((s.getD (t.toNat * 9) 0).toNat) default).loc), (1, bv (worth ((p.threads.l.getD (t.toNat) default).l.getD ((s.getD (t.toNat * 9) 0).toNat) default).a ((s.drop (t.toNat * 9 + 1)).take 8)))]) rfl (cs := #[bv ((p.threads.l.getD (t.toNat) default).l.getD ((s.getD (t.toNat * 9) 0).toNat) default).loc, bv (worth ((p.threads.l.getD (t.toNat) default).l.getD ((s.getD (t.toNat * 9) 0).toNat) default).a ((s.drop (t.toNat * 9 + 1)).take 8))]) (by kernel_rfl))) ?_; simp only [N]
    refine wxl_tk 14 rfl (xy_call rfl (rc_go Tryz.func82 (by kernel_rfl) rfl) (fun w H => keepF_spec mach s t ([((p.threads.l.getD (t.toNat) default).l.getD ((s.getD (t.toNat * 9) 0).toNat) default).loc, (worth ((p.threads.l.getD (t.toNat) default).l.getD ((s.getD (t.toNat * 9) 0).toNat) default).a ((s.drop (t.toNat * 9 + 1)).take 8))]) (by first | omega | simp [-List.reduceReplicate] <;> omega | simp [*, -List.reduceReplicate] <;> omega) (by first | omega | simp [-List.reduceReplicate] <;> omega | simp [*, -List.reduceReplicate] <;> omega) (by omega) (by omega) _ )) ?_; simp only [N]
    generalize hv65 : (keepF mach s t ([((p.threads.l.getD (t.toNat) default).l.getD ((s.getD (t.toNat * 9) 0).toNat) default).loc, (worth ((p.threads.l.getD (t.toNat) default).l.getD ((s.getD (t.toNat * 9) 0).toNat) default).a ((s.drop (t.toNat * 9 + 1)).take 8))])) = v65
    have hFv65 : (bGoesF p mach s t) = bGoesF_v65 t v65 := by first | (rw [← hv65]; exact (bf hc1).trans (bt hc2)) | exact (bf hc1).trans (bt hc2)
    have hlv65 : v65.length = 142 := by rw [← hv65]; first | omega | simp [-List.reduceReplicate] <;> omega | simp [*, -List.reduceReplicate] <;> omega
    refine wpX_tail (n := 0) _ rfl rfl (by kernel_rfl) ?_
    clear H; intro w7 H; simp only [List.cons_append, List.nil_append] at H
    refine wl_storeA H 2 rfl rfl rfl rfl v65 rfl sz41 ?_
    clear H; intro w8 H; simp only [M] at H
    simp only [N]
    refine wpList_nil ?_
    exact ⟨v65, (by kernel_rfl), H, (by first | omega | simp [-List.reduceReplicate] <;> omega | simp [*, -List.reduceReplicate] <;> omega), hFv65⟩
   · --F 2
    refine wsr ?_
    refine wr (rp_loadN H 3 rfl rfl rfl Tryz.underlying29 rfl sz29 (Nat.le_of_ble_eq_true rfl) (cs' := p.cells) rfl) ?_; simp only [N]
    refine wr (rp_loadWA H 2 rfl rfl rfl Tryz.underlying41 rfl sz41 rfl) ?_; simp only [N]
    refine wmv (bv t) ?_; simp only [N]
    refine wl_callE H rfl (rc_go Tryz.func83 (by kernel_rfl) rfl) (aloneF_spec p s t (by first | omega | simp [-List.reduceReplicate] <;> omega | simp [*, -List.reduceReplicate] <;> omega) _ (H.ro_at 0 rfl) (H.ro_at 1 rfl)) ?_
    clear H; intro w9 H
    simp only [N]
    refine wl_storeA H 1 rfl rfl rfl rfl (aloneF p s t) rfl sz41 ?_
    clear H; intro w10 H; simp only [M] at H
    simp only [N]
    refine wpList_nil ?_
    refine wp_ret ?_
    try simp only [Exit.inBlock, Exit.then, cutP]
    refine bodyPost_ret (results1 rfl (rv_aggA H 1 rfl rfl Tryz.underlying41 rfl sz41)) rfl ?_
    have hF : (bGoesF p mach s t) = (aloneF p s t) := (bf hc1).trans (bf hc2)
    rw [hF]
    exact ⟨rfl, H.ext⟩
 clear H
 rintro a_ w11 ⟨ab2, ha_, H, hja0, hFa⟩
 obtain ⟨ua, hu_⟩ : ∃ u : Nat → Value, ∀ n, tq a_ n = u n := ⟨_, fun _ => rfl⟩
 try simp only [hu_] at ha_
 clear hu_; subst ha_
 refine wsr ?_
 refine wmv (bv t) ?_; simp only [N]
 refine wr (rp_fieldAddr rfl Tryz.underlying41 rfl 0 rfl sz33 rfl 0 rfl) ?_; simp only [N]
 refine wr (rp_indexAddr_arr rfl Tryz.underlying33 sz32 rfl t.toNat rfl (by omega) (t.toNat * 9) (by omega)) ?_; simp only [N]
 refine wr (rp_fieldAddr rfl Tryz.underlying32 rfl 0 rfl sz5 rfl (t.toNat * 9) (by omega)) ?_; simp only [N]
 refine wr (rp_load1A H 2 rfl rfl rfl Tryz.underlying5 rfl (t.toNat * 9) rfl) ?_; simp only [N]
 refine wr (rp_u8_add rfl (ab2.getD (t.toNat * 9) 0) (1 : UInt8) rfl rfl) ?_; simp only [N]
 refine wr (rp_fieldAddr rfl Tryz.underlying41 rfl 0 rfl sz33 rfl 0 rfl) ?_; simp only [N]
 refine wr (rp_indexAddr_arr rfl Tryz.underlying33 sz32 rfl t.toNat rfl (by omega) (t.toNat * 9) (by omega)) ?_; simp only [N]
 refine wr (rp_fieldAddr rfl Tryz.underlying32 rfl 0 rfl sz5 rfl (t.toNat * 9) (by omega)) ?_; simp only [N]
 refine wl_store1e H 2 rfl rfl rfl rfl ((ab2.getD (t.toNat * 9) 0) + (1 : UInt8)) rfl sz5 (t.toNat * 9) rfl (by first | omega | simp [-List.reduceReplicate] <;> omega | simp [*, -List.reduceReplicate] <;> omega) ?_
 clear H; intro w12 H; simp only [M] at H
 simp only [N]
 refine wnr ?_
 refine wr (rp_loadWA H 2 rfl rfl rfl Tryz.underlying41 rfl sz41 rfl) ?_; simp only [N]
 refine wl_storeA H 1 rfl rfl rfl rfl (ab2.set (t.toNat * 9) ((ab2.getD (t.toNat * 9) 0) + (1 : UInt8))) rfl sz41 ?_
 clear H; intro w13 H; simp only [M] at H
 simp only [N]
 refine wpList_nil ?_
 refine wp_ret ?_
 try simp only [Exit.inBlock, Exit.then, cutP]
 refine bodyPost_ret (results1 rfl (rv_aggA H 1 rfl rfl Tryz.underlying41 rfl sz41)) rfl ?_
 have hF : (bGoesF p mach s t) = (ab2.set (t.toNat * 9) ((ab2.getD (t.toNat * 9) 0) + (1 : UInt8))) := hFa
 rw [hF]
 exact ⟨rfl, H.ext⟩

def doesF_v20 (v20 : (List UInt8)) : (List UInt8) :=
  v20
def doesF (p : Prog) (mach : UInt8) (s : List UInt8) (x : Pass) : (List UInt8) :=
  bif x.drain then (drainF mach s x) else (doesF_v20 (bGoesF p mach s x.thread))

@[simp] theorem doesF_len (p : Prog) (mach : UInt8) (s : List UInt8) (x : Pass) (hs : s.length = 142) (hv : BValid p mach s) (hx : x ∈ passesF p mach s) : (doesF p mach s x).length = 142 := by
  have hpf := pass_facts hv hx
  have hvm := hv.most hpf.2.1
  simp only [doesF, doesF_v20, Bool.cond_eq_ite]
  split
  · rename_i hc; exact drainF_len _ _ _ hs hpf.2.1 ⟨(hpf.2.2.2 hc).1, hvm.1⟩ (hpf.2.2.2 hc).2 (hv.loc6 hpf.2.1)
  · rename_i hc; exact bGoesF_len _ _ _ _ hs hv hpf.1 (hpf.2.2.1 (by simpa using hc))

theorem doesF_spec (p : Prog) (mach : UInt8) (s : List UInt8) (x : Pass) (hs : s.length = 142) (hv : BValid p mach s) (hx : x ∈ passesF p mach s) (w : World) (hp : (IsProg p) w) (hg_ : Glob w) :
    Calls Tryz.prog 39 #[.agg p.cells.toArray, bv mach, .agg (enc s).toArray, .agg x.cells.toArray] w fun e w' => e = .returned (.agg (enc (doesF p mach s x)).toArray) ∧ Ext w w' := by
 have H := Own.start_ro w [IsProg p, Glob] (List.forall_mem_cons.2 ⟨fun w' hw => hp.keep hw, List.forall_mem_cons.2 ⟨fun w' hw => hg_.keep hw, fun _ h => by cases h⟩⟩)
 have hcp1 := hp.locs.2.2
 have hcp2 := hp.init.2.2
 have hcp3 := hp.threads.2.2
 have hpf := pass_facts hv hx
 have hvm := hv.most hpf.2.1
 have hv6 := hv.loc6 hpf.2.1
 have hpf1 := hpf.1
 have hpf2 := hpf.2.1
 go_enter Tryz.func39, Tryz.ntmps39
 refine wsr ?_
 refine wl_box H rfl rfl (v := .agg (p.cells).toArray) rfl ?_
 clear H; intro b1 w1 hnb1 H; dsimp only [Value.cells] at H
 simp only [N]
 refine wl_box H rfl rfl (v := .agg (enc s).toArray) rfl ?_
 clear H; intro b2 w2 hnb2 H; dsimp only [Value.cells] at H
 simp only [N]
 refine wl_box H rfl rfl (v := .agg (x.cells).toArray) rfl ?_
 clear H; intro b3 w3 hnb3 H; dsimp only [Value.cells] at H
 simp only [N]
 refine wl_alloc H rfl rfl zv41 ?_
 clear H; intro b4 w4 hnb4 H; dsimp only [Value.cells] at H
 simp only [N]
 simp only [enc_replicate] at H
 refine wpList_nil ?_
 refine wp_seq ?_; refine wsr ?_
 refine wr (rp_fieldAddr rfl Tryz.underlying50 rfl 1 rfl sz4 rfl 1 rfl) ?_; simp only [N]
 refine wr (rp_load1 H 1 rfl rfl rfl Tryz.underlying4 rfl (v := .bool x.drain) rfl) ?_; simp only [N]
 refine wpList_nil ?_
 refine wp_cond_split rfl (fun hc1 => ?_) (fun hc1 => ?_)
 · --T 1
  have hpd := hpf.2.2.2 (by simpa using hc1)
  have hdl : (drainF mach s x).length = 142 := drainF_len _ _ _ hs hpf.2.1 ⟨hpd.1, hvm.1⟩ hpd.2 hv6
  refine wsr ?_
  refine wmv (bv mach) ?_; simp only [N]
  refine wr (rp_loadWA H 2 rfl rfl rfl Tryz.underlying41 rfl sz41 rfl) ?_; simp only [N]
  refine wr (rp_loadN H 1 rfl rfl rfl Tryz.underlying50 rfl sz50 (Nat.le_of_ble_eq_true rfl) (cs' := x.cells) rfl) ?_; simp only [N]
  refine wl_callE H rfl (rc_go Tryz.func55 (by kernel_rfl) rfl) (drainF_spec mach s x (by first | omega | simp [-List.reduceReplicate] <;> omega | simp [*, -List.reduceReplicate] <;> omega) (by first | assumption | omega | exact ⟨(hpf.2.2.2 (by simpa using hc1)).1, hvm.1⟩ | exact (hpf.2.2.2 (by simpa using hc1)).2) (by first | assumption | omega | exact ⟨(hpf.2.2.2 (by simpa using hc1)).1, hvm.1⟩ | exact (hpf.2.2.2 (by simpa using hc1)).2) (by first | assumption | omega | exact ⟨(hpf.2.2.2 (by simpa using hc1)).1, hvm.1⟩ | exact (hpf.2.2.2 (by simpa using hc1)).2) (by first | assumption | omega | exact ⟨(hpf.2.2.2 (by simpa using hc1)).1, hvm.1⟩ | exact (hpf.2.2.2 (by simpa using hc1)).2) _ ) ?_
  clear H; intro w5 H
  simp only [N]
  refine wl_storeA H 0 rfl rfl rfl rfl (drainF mach s x) rfl sz41 ?_
  clear H; intro w6 H; simp only [M] at H
  simp only [N]
  refine wpList_nil ?_
  refine wp_ret ?_
  try simp only [Exit.inBlock, Exit.then, cutP]
  refine bodyPost_ret (results1 rfl (rv_aggA H 0 rfl rfl Tryz.underlying41 rfl sz41)) rfl ?_
  have hF : (doesF p mach s x) = (drainF mach s x) := bt hc1
  rw [hF]
  exact ⟨rfl, H.ext⟩
 · --F 1
  have hgl : (bGoesF p mach s x.thread).length = 142 := bGoesF_len _ _ _ _ hs hv hpf1 (hpf.2.2.1 (by simpa using hc1))
  refine wp_skip ?_
  refine wsr ?_
  refine wr (rp_loadN H 3 rfl rfl rfl Tryz.underlying29 rfl sz29 (Nat.le_of_ble_eq_true rfl) (cs' := p.cells) rfl) ?_; simp only [N]
  refine wmv (bv mach) ?_; simp only [N]
  refine wr (rp_loadWA H 2 rfl rfl rfl Tryz.underlying41 rfl sz41 rfl) ?_; simp only [N]
  refine wr (rp_fieldAddr rfl Tryz.underlying50 rfl 0 rfl sz5 rfl 0 rfl) ?_; simp only [N]
  refine wr (rp_load1 H 1 rfl rfl rfl Tryz.underlying5 rfl (v := bv x.thread) rfl) ?_; simp only [N]
  refine wl_callE H rfl (rc_go Tryz.func56 (by kernel_rfl) rfl) (bGoesF_spec p mach s x.thread (by first | omega | simp [-List.reduceReplicate] <;> omega | simp [*, -List.reduceReplicate] <;> omega) (by first | assumption | exact hpf.2.2.1 (by simpa using hc1)) (by first | assumption | exact hpf.2.2.1 (by simpa using hc1)) (by first | assumption | exact hpf.2.2.1 (by simpa using hc1)) _ (H.ro_at 0 rfl) (H.ro_at 1 rfl)) ?_
  clear H; intro w7 H
  simp only [N]
  generalize hv20 : (bGoesF p mach s x.thread) = v20
  have hFv20 : (doesF p mach s x) = doesF_v20 v20 := by first | (rw [← hv20]; exact bf hc1) | exact bf hc1
  have hlv20 : v20.length = 142 := by rw [← hv20]; first | omega | simp [-List.reduceReplicate] <;> omega | simp [*, -List.reduceReplicate] <;> omega
  refine wl_storeA H 0 rfl rfl rfl rfl v20 rfl sz41 ?_
  clear H; intro w8 H; simp only [M] at H
  simp only [N]
  refine wpList_nil ?_
  refine wp_ret ?_
  try simp only [Exit.inBlock, Exit.then, cutP]
  refine bodyPost_ret (results1 rfl (rv_aggA H 0 rfl rfl Tryz.underlying41 rfl sz41)) rfl ?_
  have hF : (doesF p mach s x) = v20 := hFv20
  rw [hF]
  exact ⟨rfl, H.ext⟩

theorem bmoves_mem {p : Prog} {mach : UInt8} {s : List UInt8} {x : Pass} (hs : s.length = 142) (h : x ∈ bMovesF p mach s) : BValid p mach s ∧ x ∈ passesF p mach s := by
  unfold bMovesF at h
  cases hc : bRightF p mach s <;> rw [hc] at h
  · cases h
  · exact ⟨(bvalid_iff hs).1 hc, h⟩
theorem bmoves_at {p : Prog} {mach : UInt8} {s : List UInt8} (hs : s.length = 142) {k : Nat} (hk : k < (bMovesF p mach s).length) : BValid p mach s ∧ (bMovesF p mach s).getD k default ∈ passesF p mach s :=
  bmoves_mem hs (by rw [List.getD_eq_getElem?_getD, List.getElem?_eq_getElem hk]; exact List.getElem_mem hk)

def bMoveF_a (p : Prog) (mach : UInt8) (s : List UInt8) (x : Pass) (xra : Pass) (ra : Unit → ((List UInt8) × Int)) : Unit → (List UInt8) × Int := fun s_ => match s_ with | () => bif (decide (xra = x)) then ((doesF p mach s x), (0 : Int)) else (ra ())
def bMoveF_ak : Unit → (List UInt8) × Int := fun s_ => match s_ with | () => ((List.replicate 142 (0 : UInt8)), (2 : Int))
def bMoveF (p : Prog) (mach : UInt8) (s : List UInt8) (x : Pass) : (List UInt8) × Int :=
  loopL (bMoveF_a p mach s x) bMoveF_ak (bMovesF p mach s) ()
theorem bMove_go (p : Prog) (mach : UInt8) (s : List UInt8) (x : Pass) : ∀ l, loopL (bMoveF_a p mach s x) bMoveF_ak l () = if x ∈ l then (doesF p mach s x, 0) else (List.replicate 142 0, 2)
  | [] => by simp [loopL, bMoveF_ak]
  | y :: l => by
    show bMoveF_a p mach s x y (loopL (bMoveF_a p mach s x) bMoveF_ak l) () = _
    simp only [bMoveF_a, bMove_go p mach s x l]
    by_cases h : y = x
    · simp [h]
    · rw [decide_eq_false h, cond_false]
      have hne : x ≠ y := fun e => h e.symm
      simp only [List.mem_cons, hne, false_or]
theorem bMove_eq (p : Prog) (mach : UInt8) (s : List UInt8) (x : Pass) : bMoveF p mach s x = if x ∈ bMovesF p mach s then (doesF p mach s x, 0) else (List.replicate 142 0, 2) := bMove_go p mach s x _

@[simp] theorem bMoveF_len0 (p : Prog) (mach : UInt8) (s : List UInt8) (x : Pass) (hs : s.length = 142) : ((bMoveF p mach s x).1).length = 142 := by
  rw [bMove_eq]
  split
  · rename_i h; have h2 := bmoves_mem hs h; exact doesF_len _ _ _ _ hs h2.1 h2.2
  · simp

theorem bMoveF_spec (p : Prog) (mach : UInt8) (s : List UInt8) (x : Pass) (hs : s.length = 142) (w : World) (hp : (IsProg p) w) (hg_ : Glob w) :
    Calls Tryz.prog 13 #[.agg p.cells.toArray, bv mach, .agg (enc s).toArray, .agg x.cells.toArray] w fun e w' => e = .returned (.tuple #[.agg (enc (bMoveF p mach s x).1).toArray, iv (bMoveF p mach s x).2]) ∧ Ext w w' := by
 have H := Own.start_ro w [IsProg p, Glob] (List.forall_mem_cons.2 ⟨fun w' hw => hp.keep hw, List.forall_mem_cons.2 ⟨fun w' hw => hg_.keep hw, fun _ h => by cases h⟩⟩)
 have hcp1 := hp.locs.2.2
 have hcp2 := hp.init.2.2
 have hcp3 := hp.threads.2.2
 go_enter Tryz.func13, Tryz.ntmps13
 refine wsr ?_
 refine wl_box H rfl rfl (v := .agg (p.cells).toArray) rfl ?_
 clear H; intro b1 w1 hnb1 H; dsimp only [Value.cells] at H
 simp only [N]
 refine wl_box H rfl rfl (v := .agg (enc s).toArray) rfl ?_
 clear H; intro b2 w2 hnb2 H; dsimp only [Value.cells] at H
 simp only [N]
 refine wl_box H rfl rfl (v := .agg (x.cells).toArray) rfl ?_
 clear H; intro b3 w3 hnb3 H; dsimp only [Value.cells] at H
 simp only [N]
 refine wl_alloc H rfl rfl zv41 ?_
 clear H; intro b4 w4 hnb4 H; dsimp only [Value.cells] at H
 simp only [N]
 simp only [enc_replicate] at H
 refine wasg (iv (0 : Int)) ?_; simp only [N]
 refine wpList_nil ?_
 refine wp_seq ?_; refine wsr ?_
 refine wr (rp_loadN H 3 rfl rfl rfl Tryz.underlying29 rfl sz29 (Nat.le_of_ble_eq_true rfl) (cs' := p.cells) rfl) ?_; simp only [N]
 refine wmv (bv mach) ?_; simp only [N]
 refine wr (rp_loadWA H 2 rfl rfl rfl Tryz.underlying41 rfl sz41 rfl) ?_; simp only [N]
 refine wl_callFA H rfl (rc_go Tryz.func10 (by kernel_rfl) rfl) (bMovesF_spec p mach s (by first | omega | simp [-List.reduceReplicate] <;> omega | simp [*, -List.reduceReplicate] <;> omega) _ (H.ro_at 0 rfl) (H.ro_at 1 rfl)) ?_
 clear H; intro x1_ w5 H
 simp only [N]
 have hcx1_0 : (bMovesF p mach s).length ≤ 140737488355328 := (FreshAt.now (H.ro_at 0 rfl)).2.2.1
 refine wr (rp_len_sl (s := (⟨x1_.1, x1_.2, (bMovesF p mach s)⟩ : Sl Pass)) Tryz.underlying44 rfl) ?_; simp only [N]
 refine wmv (iv (0 : Int)) ?_; simp only [N]
 refine wpList_nil ?_
 refine wp_block ?_
 refine wp_loopX (fun m' a' w' => ∃ (a17 : Nat), a' = ⟨#[(tq a' 0), bv mach, (tq a' 2), (tq a' 3), .pointer (some ⟨b1, 0, none⟩), uU, .pointer (some ⟨b2, 0, none⟩), .pointer (some ⟨b3, 0, none⟩), .pointer (some ⟨b4, 0, none⟩), (tq a' 9), uU, (tq a' 11), (tq a' 12), bv mach, (tq a' 14), (⟨x1_.1, x1_.2, (bMovesF p mach s)⟩ : Sl Pass).val, iv (((bMovesF p mach s).length : Nat) : Int), iv (a17 : Int), (tq a' 18), (tq a' 19), (tq a' 20), (tq a' 21), (tq a' 22), (tq a' 23), (tq a' 24), (tq a' 25), (tq a' 26), (tq a' 27), (tq a' 28), (tq a' 29), uU], []⟩ ∧ Own w [] [FreshAt w (SlIn 3 Pass.cells (⟨x1_.1, x1_.2, (bMovesF p mach s)⟩ : Sl Pass)), IsProg p, Glob] [.blk b4 (.cells (enc (List.replicate 142 (0 : UInt8))).toArray 41 (0, 0)), .blk b3 (.cells (x.cells).toArray 50 (0, 0)), .blk b2 (.cells (enc s).toArray 41 (0, 0)), .blk b1 (.cells (p.cells).toArray 29 (0, 0))] w' ∧ (a17 ≤ (bMovesF p mach s).length) ∧ (bMoveF p mach s x) = loopL (bMoveF_a p mach s x) bMoveF_ak ((bMovesF p mach s).drop a17) () ∧ m' = (bMovesF p mach s).length - a17) _ ⟨0, (by kernel_rfl), H, (by omega), rfl, rfl⟩ ?_
 clear H
 rintro _ a_ w6 ⟨a17, ha_, H, hia0, hFa, rfl⟩
 obtain ⟨ua, hu_⟩ : ∃ u : Nat → Value, ∀ n, tq a_ n = u n := ⟨_, fun _ => rfl⟩
 try simp only [hu_] at ha_
 clear hu_; subst ha_
 refine wsr ?_
 refine wr (rp_int_lss rfl (a17 : Int) (((bMovesF p mach s).length : Nat) : Int) rfl rfl) ?_; simp only [N]
 refine wpList_nil ?_
 refine wp_seq ?_; refine wp_cond_split rfl (fun hc1 => ?_) (fun hc1 => ?_)
 · --T 1
  have hc1N1 : (a17 : Int) < (((bMovesF p mach s).length : Nat) : Int) := (by simpa using hc1)
  obtain ⟨ra, hra⟩ : ∃ r, r = loopL (bMoveF_a p mach s x) bMoveF_ak ((bMovesF p mach s).drop (a17 + 1)) := ⟨_, rfl⟩
  have hFa2 := hFa.trans (loopL_step (show a17 < (bMovesF p mach s).length by omega))
  rw [← hra] at hFa2
  refine wp_skip ?_
  refine wp_seq ?_; refine wp_block ?_
  refine wsr ?_
  refine wr (rp_indexAddr_sl (FreshAt.now (H.ro_at 0 rfl)) rfl Tryz.underlying44 sz50 rfl a17 rfl (by show _ < (bMovesF p mach s).length; omega)) ?_; simp only [N]
  refine wr (rp_loadN_sl (FreshAt.now (H.ro_at 0 rfl)) a17 (by show _ < (bMovesF p mach s).length; omega) rfl Tryz.underlying50 rfl rfl sz50) ?_; simp only [N]
  refine wl_alloc H rfl rfl zv50 ?_
  clear H; intro b5 w7 hnb5 H; dsimp only [Value.cells] at H
  simp only [N]
  refine wl_storeV H 0 rfl rfl rfl rfl ((((bMovesF p mach s).getD a17 default).cells).toArray) rfl (Pass.cells_one _) sz50 ?_
  clear H; intro w8 H; simp only [M] at H
  simp only [N]
  refine wnr ?_
  refine wr (rp_loadN H 0 rfl rfl rfl Tryz.underlying50 rfl sz50 (Nat.le_of_ble_eq_true rfl) (cs' := ((bMovesF p mach s).getD a17 default).cells) rfl) ?_; simp only [N]
  refine wr (rp_loadN H 2 rfl rfl rfl Tryz.underlying50 rfl sz50 (Nat.le_of_ble_eq_true rfl) (cs' := x.cells) rfl) ?_; simp only [N]
  refine wr (rp_eql_leafs rfl 6 (by decide) (by kernel_rfl) (by kernel_rfl) (ks := [.int .u8, .bool, .int .u8]) (by kernel_rfl) (xs := ((bMovesF p mach s).getD a17 default).cells) (ys := x.cells) rfl rfl (by kernel_rfl) (by kernel_rfl) ⟨good_u8 _, good_bool _, good_u8 _, trivial⟩ ⟨good_u8 _, good_bool _, good_u8 _, trivial⟩ (r := (decide (((bMovesF p mach s).getD a17 default) = x))) (by exact Pass.cells_iff _ _)) ?_; simp only [N]
  refine wpList_nil ?_
  refine wp_cond_split rfl (fun hc2 => ?_) (fun hc2 => ?_)
  · --T 2
   have hbm := bmoves_at (p := p) (mach := mach) hs (k := a17) (by omega)
   rw [of_decide_eq_true hc2] at hbm
   have hdl := doesF_len p mach s x hs hbm.1 hbm.2
   refine wsr ?_
   refine wr (rp_loadN H 4 rfl rfl rfl Tryz.underlying29 rfl sz29 (Nat.le_of_ble_eq_true rfl) (cs' := p.cells) rfl) ?_; simp only [N]
   refine wmv (bv mach) ?_; simp only [N]
   refine wr (rp_loadWA H 3 rfl rfl rfl Tryz.underlying41 rfl sz41 rfl) ?_; simp only [N]
   refine wr (rp_loadN H 2 rfl rfl rfl Tryz.underlying50 rfl sz50 (Nat.le_of_ble_eq_true rfl) (cs' := x.cells) rfl) ?_; simp only [N]
   refine wl_callE H rfl (rc_go Tryz.func39 (by kernel_rfl) rfl) (doesF_spec p mach s x (by first | omega | simp [-List.reduceReplicate] <;> omega | simp [*, -List.reduceReplicate] <;> omega) (by first | exact hbm.1 | exact hbm.2) (by first | exact hbm.1 | exact hbm.2) _ (H.ro_at 1 rfl) (H.ro_at 2 rfl)) ?_
   clear H; intro w9 H
   simp only [N]
   refine wl_storeA H 1 rfl rfl rfl rfl (doesF p mach s x) rfl sz41 ?_
   clear H; intro w10 H; simp only [M] at H
   simp only [N]
   refine wasg (iv (0 : Int)) ?_; simp only [N]
   refine wpList_nil ?_
   refine wp_ret ?_
   try simp only [Exit.inBlock, Exit.then, cutP]
   refine bodyPost_ret (results2 rfl (rv_aggA H 1 rfl rfl Tryz.underlying41 rfl sz41) (rv_tmp rfl)) rfl ?_
   have hF : (bMoveF p mach s x) = ((doesF p mach s x), (0 : Int)) := hFa2.trans (bt hc2)
   rw [hF]
   exact ⟨rfl, H.ext⟩
  · --F 2
   refine wp_skip ?_
   refine wp_region_lit ?_; refine wr (rp_int_add rfl (a17 : Int) (1 : Int) rfl rfl (by omega)) ?_; simp only [N]
   refine wmv (iv ((a17 : Int) + (1 : Int))) ?_; simp only [N]
   refine wpList_nil ?_
   replace H := H.dropNew 0 rfl (foot_blk hnb5); simp only [m5, m6] at H
   show ∃ n', n' < _ ∧ _
   refine ⟨_, ?_, (a17 + 1), (by kernel_rfl), H, (by omega), (hFa2.trans (bf hc2)).trans (congrFun hra _), rfl⟩
   omega
 · --F 1
  have hc1N2 : (((bMovesF p mach s).length : Nat) : Int) ≤ (a17 : Int) := (by simpa using hc1)
  have hFa2 := hFa.trans (loopL_end (show (bMovesF p mach s).length ≤ a17 by omega))
  refine wp_exit ?_
  refine wsr ?_
  refine wr (rp_build rfl (vs := []) rfl (cs := (enc (List.replicate 142 (0 : UInt8))).toArray) (by kernel_rfl)) ?_; simp only [N]
  refine wl_storeA H 0 rfl rfl rfl rfl (List.replicate 142 (0 : UInt8)) rfl sz41 ?_
  clear H; intro w11 H; simp only [M] at H
  simp only [N]
  refine wasg (iv (2 : Int)) ?_; simp only [N]
  refine wpList_nil ?_
  refine wp_ret ?_
  try simp only [Exit.inBlock, Exit.then, cutP]
  refine bodyPost_ret (results2 rfl (rv_aggA H 0 rfl rfl Tryz.underlying41 rfl sz41) (rv_tmp rfl)) rfl ?_
  have hF : (bMoveF p mach s x) = ((List.replicate 142 (0 : UInt8)), (2 : Int)) := hFa2
  rw [hF]
  exact ⟨rfl, H.ext⟩

end Go.Proofs.YtimonjemjhecoaaGreatDoor
