/- Walks, printed by a program of this repository (wip/tool). -/
import Derived.Test.YtimonjemjhecoaaGreatDoorBu4
namespace Go.Proofs.YtimonjemjhecoaaGreatDoor
open Go.RowKit
open Go
attribute [local irreducible] wpList wpQuiet wpX Code.wp
set_option maxHeartbeats 1000000
set_option maxRecDepth 100000
set_option linter.unusedSimpArgs false
set_option linter.unusedVariables false

def passesEq_a (b : List Pass) (xra : Pass) (ra : Nat → Bool) : Nat → Bool := fun s_ => match s_ with | a13 => bif (!(decide (xra = (b.getD a13 default)))) then false else (ra (a13 + 1))
def passesEq_ak : Nat → Bool := fun s_ => match s_ with | a13 => true
def passesEq (a : List Pass) (b : List Pass) : Bool :=
  bif ((a.length : Int) != (b.length : Int)) then false else (loopL (passesEq_a b) passesEq_ak a 0)


theorem passesEq_spec (a : Sl Pass) (b : Sl Pass) (w : World) (ha : (SlIn 3 Pass.cells a) w) (hb : (SlIn 3 Pass.cells b) w) :
    Calls Tryz.prog 27 #[a.val, b.val] w fun e w' => e = .returned (.bool (passesEq a.l b.l)) ∧ Ext w w' := by
 have H := Own.start_ro w [SlIn 3 Pass.cells a, SlIn 3 Pass.cells b] (List.forall_mem_cons.2 ⟨fun w' hw => ha.keep hw, List.forall_mem_cons.2 ⟨fun w' hw => hb.keep hw, fun _ h => by cases h⟩⟩)
 have hca := ha.2.2
 have hcb := hb.2.2
 go_enter Tryz.func27, Tryz.ntmps27
 refine wsr ?_
 refine wasg (.bool false) ?_; simp only [N]
 refine wpList_nil ?_
 refine wp_seq ?_; refine wsr ?_
 refine wmv (a.val) ?_; simp only [N]
 refine wr (rp_len_sl (s := a) Tryz.underlying44 rfl) ?_; simp only [N]
 refine wmv (b.val) ?_; simp only [N]
 refine wr (rp_len_sl (s := b) Tryz.underlying44 rfl) ?_; simp only [N]
 refine wr (rp_int_neq rfl (a.l.length : Int) (b.l.length : Int) rfl rfl) ?_; simp only [N]
 refine wpList_nil ?_
 refine wp_cond_split rfl (fun hc1 => ?_) (fun hc1 => ?_)
 · --T 1
  have hc1N1 : (a.l.length : Int) ≠ (b.l.length : Int) := (by simpa using hc1)
  refine wsr ?_
  refine wasg (.bool false) ?_; simp only [N]
  refine wpList_nil ?_
  refine wp_ret ?_
  try simp only [Exit.inBlock, Exit.then, cutP]
  refine bodyPost_ret (results1 rfl (rv_tmp rfl)) rfl ?_
  have hF : (passesEq a.l b.l) = false := bt hc1
  rw [hF]
  exact ⟨rfl, H.ext⟩
 · --F 1
  have hc1N2 : (a.l.length : Int) = (b.l.length : Int) := (by simpa using hc1)
  refine wp_skip ?_
  refine wp_seq ?_; refine wsr ?_
  refine wmv (a.val) ?_; simp only [N]
  refine wr (rp_len_sl (s := a) Tryz.underlying44 rfl) ?_; simp only [N]
  refine wmv (iv (0 : Int)) ?_; simp only [N]
  refine wpList_nil ?_
  refine wp_block ?_
  refine wp_loopX (fun m' a' w' => ∃ (a13 : Nat), a' = ⟨#[a.val, b.val, uU, uU, (tq a' 4), (tq a' 5), a.val, (tq a' 7), b.val, (tq a' 9), (tq a' 10), a.val, iv (a.l.length : Int), iv (a13 : Int), (tq a' 14), (tq a' 15), (tq a' 16), (tq a' 17), (tq a' 18), (tq a' 19), (tq a' 20), (tq a' 21), (tq a' 22), (tq a' 23), (tq a' 24), (tq a' 25)], []⟩ ∧ Own w [] [SlIn 3 Pass.cells a, SlIn 3 Pass.cells b] [] w' ∧ (a13 ≤ a.l.length) ∧ (passesEq a.l b.l) = loopL (passesEq_a b.l) passesEq_ak (a.l.drop a13) a13 ∧ m' = a.l.length - a13) _ ⟨0, (by kernel_rfl), H, (by omega), bf hc1, rfl⟩ ?_
  clear H
  rintro _ a_ w1 ⟨a13, ha_, H, hia0, hFa, rfl⟩
  obtain ⟨ua, hu_⟩ : ∃ u : Nat → Value, ∀ n, tq a_ n = u n := ⟨_, fun _ => rfl⟩
  try simp only [hu_] at ha_
  clear hu_; subst ha_
  refine wsr ?_
  refine wr (rp_int_lss rfl (a13 : Int) (a.l.length : Int) rfl rfl) ?_; simp only [N]
  refine wpList_nil ?_
  refine wp_seq ?_; refine wp_cond_split rfl (fun hc2 => ?_) (fun hc2 => ?_)
  · --T 2
   have hc2N3 : (a13 : Int) < (a.l.length : Int) := (by simpa using hc2)
   obtain ⟨ra, hra⟩ : ∃ r, r = loopL (passesEq_a b.l) passesEq_ak (a.l.drop (a13 + 1)) := ⟨_, rfl⟩
   have hFa2 := hFa.trans (loopL_step (show a13 < a.l.length by omega))
   rw [← hra] at hFa2
   refine wp_skip ?_
   refine wp_seq ?_; refine wp_block ?_
   refine wsr ?_
   refine wmv (iv (a13 : Int)) ?_; simp only [N]
   refine wasg (iv (a13 : Int)) ?_; simp only [N]
   refine wpList_nil ?_
   refine wp_seq ?_; refine wp_region_own H (by kernel_rfl) (by kernel_rfl) ?_
   refine wq_run rfl (fun w H => rp_move rfl (v := a.val) rfl) ?_; simp only [N]
   refine wq_run rfl (fun w H => rp_move rfl (v := iv (a13 : Int)) rfl) ?_; simp only [N]
   refine wq_run rfl (fun w H => rp_indexAddr_sl (H.ro_at 0 rfl) rfl Tryz.underlying44 sz50 rfl a13 rfl (by omega)) ?_; simp only [N]
   refine wq_run rfl (fun w H => rp_loadN_sl (H.ro_at 0 rfl) a13 (by omega) rfl Tryz.underlying50 rfl rfl sz50) ?_; simp only [N]
   refine wq_run rfl (fun w H => rp_move rfl (v := b.val) rfl) ?_; simp only [N]
   refine wq_run rfl (fun w H => rp_move rfl (v := iv (a13 : Int)) rfl) ?_; simp only [N]
   refine wq_run rfl (fun w H => rp_indexAddr_sl (H.ro_at 1 rfl) rfl Tryz.underlying44 sz50 rfl a13 rfl (by omega)) ?_; simp only [N]
   refine wq_run rfl (fun w H => rp_loadN_sl (H.ro_at 1 rfl) a13 (by omega) rfl Tryz.underlying50 rfl rfl sz50) ?_; simp only [N]
   refine wq_run rfl (fun w H => rp_neq_leafs rfl 6 (by decide) (by kernel_rfl) (by kernel_rfl) (ks := [.int .u8, .bool, .int .u8]) (by kernel_rfl) (xs := (a.l.getD a13 default).cells) (ys := (b.l.getD a13 default).cells) rfl rfl (by kernel_rfl) (by kernel_rfl) ⟨good_u8 _, good_bool _, good_u8 _, trivial⟩ ⟨good_u8 _, good_bool _, good_u8 _, trivial⟩ (r := (decide ((a.l.getD a13 default) = (b.l.getD a13 default)))) (by exact Pass.cells_iff _ _)) ?_; simp only [N]
   refine wq_nil ?_
   clear H; intro w2 H
   refine wp_cond_split rfl (fun hc3 => ?_) (fun hc3 => ?_)
   · --T 3
    refine wsr ?_
    refine wasg (.bool false) ?_; simp only [N]
    refine wpList_nil ?_
    refine wp_ret ?_
    try simp only [Exit.inBlock, Exit.then, cutP]
    refine bodyPost_ret (results1 rfl (rv_tmp rfl)) rfl ?_
    have hF : (passesEq a.l b.l) = false := hFa2.trans (bt hc3)
    rw [hF]
    exact ⟨rfl, H.ext⟩
   · --F 3
    refine wp_skip ?_
    refine wp_region_lit ?_; refine wr (rp_int_add rfl (a13 : Int) (1 : Int) rfl rfl (by omega)) ?_; simp only [N]
    refine wmv (iv ((a13 : Int) + (1 : Int))) ?_; simp only [N]
    refine wpList_nil ?_
    show ∃ n', n' < _ ∧ _
    refine ⟨_, ?_, (a13 + 1), (by kernel_rfl), H, (by omega), (hFa2.trans (bf hc3)).trans (congrFun hra _), rfl⟩
    omega
  · --F 2
   have hc2N4 : (a.l.length : Int) ≤ (a13 : Int) := (by simpa using hc2)
   have hFa2 := hFa.trans (loopL_end (show a.l.length ≤ a13 by omega))
   refine wp_exit ?_
   refine wsr ?_
   refine wasg (.bool true) ?_; simp only [N]
   refine wpList_nil ?_
   refine wp_ret ?_
   try simp only [Exit.inBlock, Exit.then, cutP]
   refine bodyPost_ret (results1 rfl (rv_tmp rfl)) rfl ?_
   have hF : (passesEq a.l b.l) = true := hFa2
   rw [hF]
   exact ⟨rfl, H.ext⟩

theorem all_at {l : List Int} (h : l.all (fun x => decide (-128 ≤ x) && decide (x ≤ 127)) = true) (k : Nat) : -128 ≤ l.getD k default ∧ l.getD k default ≤ 127 := by
  rcases Nat.lt_or_ge k l.length with hk | hk
  · have h1 := List.all_eq_true.1 h (l.getD k default) (by rw [List.getD_eq_getElem?_getD, List.getElem?_eq_getElem hk]; exact List.getElem_mem hk)
    rw [Bool.and_eq_true] at h1
    exact ⟨of_decide_eq_true h1.1, of_decide_eq_true h1.2⟩
  · rw [List.getD_eq_getElem?_getD, List.getElem?_eq_none hk]
    exact ⟨by decide, by decide⟩

def ofF_a (xra : Int) (ra : (List Pass) → (List Pass)) : (List Pass) → (List Pass) := fun s_ => match s_ with | arow1 => bif (decide (xra < (0 : Int))) then (ra (arow1 ++ [(⟨(UInt8.ofNat (((-1 : Int) - xra) % 256).toNat), true, (0 : UInt8)⟩ : Pass)])) else (ra (arow1 ++ [(⟨(UInt8.ofNat (xra % 256).toNat), false, (0 : UInt8)⟩ : Pass)]))
def ofF_ak : (List Pass) → (List Pass) := fun s_ => match s_ with | arow1 => arow1
def ofF (l : List Int) : (List Pass) :=
  loopL ofF_a ofF_ak l ([] : List Pass)


theorem ofF_spec (l : Sl Int) (hn : l.l.length ≤ 100) (hb : l.l.all (fun x => decide (-128 ≤ x) && decide (x ≤ 127)) = true) (w : World) (hl : (SlIn 1 eInt l) w) :
    Calls Tryz.prog 37 #[l.val] w fun e w' => ∃ x : (Option Addr × Nat), e = .returned ((⟨x.1, x.2, (ofF l.l)⟩ : Sl Pass).val) ∧ Ext w w' ∧ Fresh w w' (SlIn 3 Pass.cells (⟨x.1, x.2, (ofF l.l)⟩ : Sl Pass)) := by
 have H := Own.start_ro w [SlIn 1 eInt l] (List.forall_mem_cons.2 ⟨fun w' hw => hl.keep hw, fun _ h => by cases h⟩)
 have hcl := hl.2.2
 go_enter Tryz.func37, Tryz.ntmps37
 refine wsr ?_
 refine wasg ((.slice none 0 0)) ?_; simp only [N]
 refine wnr ?_
 refine wasg ((.slice none 0 0)) ?_; simp only [N]
 refine wpList_nil ?_
 refine wp_seq ?_; refine wsr ?_
 refine wmv (l.val) ?_; simp only [N]
 refine wr (rp_len_sl (s := l) Tryz.underlying79 rfl) ?_; simp only [N]
 refine wmv (iv (0 : Int)) ?_; simp only [N]
 refine wpList_nil ?_
 refine wp_block ?_
 have H := H.rowNilT Pass.cells 50 3
 refine wp_loopX (fun m' a' w' => ∃ (a8 : Nat) (arow1 : List Pass) (avrow1 : Value), a' = ⟨#[l.val, uU, (tq a' 2), avrow1, uU, (tq a' 5), l.val, iv (l.l.length : Int), iv (a8 : Int), (tq a' 9), (tq a' 10), (tq a' 11), (tq a' 12), (tq a' 13), (tq a' 14), (tq a' 15), (tq a' 16), (tq a' 17), (tq a' 18), (tq a' 19), (tq a' 20), (tq a' 21), (tq a' 22), (tq a' 23), (tq a' 24), (tq a' 25), (tq a' 26), (tq a' 27), uU], []⟩ ∧ Own w [] [SlIn 1 eInt l] [.row avrow1 50 3 arow1.length (arow1.flatMap Pass.cells)] w' ∧ (a8 ≤ l.l.length) ∧ (arow1.length ≤ a8) ∧ (ofF l.l) = loopL ofF_a ofF_ak (l.l.drop a8) arow1 ∧ m' = l.l.length - a8) _ ⟨0, ([] : List Pass), (.slice none 0 0), (by kernel_rfl), H, (by omega), (by first | omega | (simp; done) | (simp; omega)), rfl, rfl⟩ ?_
 clear H
 rintro _ a_ w1 ⟨a8, arow1, avrow1, ha_, H, hia0, hia1, hFa, rfl⟩
 obtain ⟨ua, hu_⟩ : ∃ u : Nat → Value, ∀ n, tq a_ n = u n := ⟨_, fun _ => rfl⟩
 try simp only [hu_] at ha_
 clear hu_; subst ha_
 refine wsr ?_
 refine wr (rp_int_lss rfl (a8 : Int) (l.l.length : Int) rfl rfl) ?_; simp only [N]
 refine wpList_nil ?_
 refine wp_seq ?_; refine wp_cond_split rfl (fun hc1 => ?_) (fun hc1 => ?_)
 · --T 1
  have hc1N1 : (a8 : Int) < (l.l.length : Int) := (by simpa using hc1)
  obtain ⟨ra, hra⟩ : ∃ r, r = loopL ofF_a ofF_ak (l.l.drop (a8 + 1)) := ⟨_, rfl⟩
  have hFa2 := hFa.trans (loopL_step (show a8 < l.l.length by omega))
  rw [← hra] at hFa2
  refine wp_skip ?_
  refine wp_seq ?_; refine wp_block ?_
  refine wsr ?_
  refine wr (rp_indexAddr_sl (H.ro_at 0 rfl) rfl Tryz.underlying79 sz3 rfl a8 rfl (by omega)) ?_; simp only [N]
  refine wr (rp_load1_sl (H.ro_at 0 rfl) a8 (by omega) rfl Tryz.underlying3 rfl 0 rfl (by omega) (v := iv (l.l.getD a8 default)) rfl) ?_; simp only [N]
  refine wasg (iv (l.l.getD a8 default)) ?_; simp only [N]
  refine wnr ?_
  refine wmv (iv (l.l.getD a8 default)) ?_; simp only [N]
  refine wr (rp_int_lss rfl (l.l.getD a8 default) (0 : Int) rfl rfl) ?_; simp only [N]
  refine wpList_nil ?_
  refine wp_cond_split rfl (fun hc2 => ?_) (fun hc2 => ?_)
  · --T 2
   have hc2N2 : (l.l.getD a8 default) < (0 : Int) := (by simpa using hc2)
   have hb8 := all_at hb a8
   refine wp_region_lit ?_; refine wmv avrow1 ?_; simp only [N]
   refine wmv (iv (l.l.getD a8 default)) ?_; simp only [N]
   refine wr (rp_int_sub rfl (-1 : Int) (l.l.getD a8 default) rfl rfl (by omega)) ?_; simp only [N]
   refine wr (rp_int_to_u8 rfl Tryz.underlying3 Tryz.underlying5 ((-1 : Int) - (l.l.getD a8 default)) rfl) ?_; simp only [N]
   refine wr (rp_build rfl (vs := [(0, bv (UInt8.ofNat (((-1 : Int) - (l.l.getD a8 default)) % 256).toNat)), (1, .bool true)]) rfl (cs := #[bv (UInt8.ofNat (((-1 : Int) - (l.l.getD a8 default)) % 256).toNat), .bool true, bv (0 : UInt8)]) (by kernel_rfl)) ?_; simp only [N]
   refine wl_xallocF H rfl (xa_buildSlice rfl Tryz.underlying44 sz50 zv50 (by decide) (by decide) (vs := [(0, .agg #[bv (UInt8.ofNat (((-1 : Int) - (l.l.getD a8 default)) % 256).toNat), .bool true, bv (0 : UInt8)])]) rfl (cs := #[bv (UInt8.ofNat (((-1 : Int) - (l.l.getD a8 default)) % 256).toNat), .bool true, bv (0 : UInt8)]) (by kernel_rfl)) ?_
   clear H; intro b1 w2 hnb1 H
   simp only [N]
   refine wl_appendT Pass.cells H 0 rfl Tryz.underlying44 sz50 zv50 by50 rfl (by decide) rfl rfl (ad := ⟨b1, 0, none⟩) (m := 1) (c := 1) rfl [(⟨(UInt8.ofNat (((-1 : Int) - (l.l.getD a8 default)) % 256).toNat), true, (0 : UInt8)⟩ : Pass)] rfl Pass.cells_n (fun j u hu => cell_of_news (H.ro_at 0 rfl) j u hu) (by intro x; simp [Pass.cells, Value.oneCell']) (by first | omega | (simp only [List.length_append, List.length_cons, List.length_nil]; omega)) (by first | omega | (simp only [List.length_append, List.length_cons, List.length_nil]; omega)) (by simp) ?_
   clear H; intro b2 w3 H; simp only [M] at H
   simp only [N]
   refine wasg b2 ?_; simp only [N]
   refine wpList_nil ?_
   refine wp_region_lit ?_; refine wr (rp_int_add rfl (a8 : Int) (1 : Int) rfl rfl (by omega)) ?_; simp only [N]
   refine wmv (iv ((a8 : Int) + (1 : Int))) ?_; simp only [N]
   refine wpList_nil ?_
   replace H := H.facts (R' := [SlIn 1 eInt l]) (by first | exact fun _ h => h | simp)
   show ∃ n', n' < _ ∧ _
   refine ⟨_, ?_, (a8 + 1), (arow1 ++ [(⟨(UInt8.ofNat (((-1 : Int) - (l.l.getD a8 default)) % 256).toNat), true, (0 : UInt8)⟩ : Pass)]), b2, (by kernel_rfl), H, (by omega), (by first | omega | (simp only [List.length_append, List.length_cons, List.length_nil]; omega)), (hFa2.trans (bt hc2)).trans (congrFun hra _), rfl⟩
   omega
  · --F 2
   have hc2N3 : (0 : Int) ≤ (l.l.getD a8 default) := (by simpa using hc2)
   refine wp_region_lit ?_; refine wmv avrow1 ?_; simp only [N]
   refine wmv (iv (l.l.getD a8 default)) ?_; simp only [N]
   refine wr (rp_int_to_u8 rfl Tryz.underlying3 Tryz.underlying5 (l.l.getD a8 default) rfl) ?_; simp only [N]
   refine wr (rp_build rfl (vs := [(0, bv (UInt8.ofNat ((l.l.getD a8 default) % 256).toNat))]) rfl (cs := #[bv (UInt8.ofNat ((l.l.getD a8 default) % 256).toNat), .bool false, bv (0 : UInt8)]) (by kernel_rfl)) ?_; simp only [N]
   refine wl_xallocF H rfl (xa_buildSlice rfl Tryz.underlying44 sz50 zv50 (by decide) (by decide) (vs := [(0, .agg #[bv (UInt8.ofNat ((l.l.getD a8 default) % 256).toNat), .bool false, bv (0 : UInt8)])]) rfl (cs := #[bv (UInt8.ofNat ((l.l.getD a8 default) % 256).toNat), .bool false, bv (0 : UInt8)]) (by kernel_rfl)) ?_
   clear H; intro b3 w4 hnb3 H
   simp only [N]
   refine wl_appendT Pass.cells H 0 rfl Tryz.underlying44 sz50 zv50 by50 rfl (by decide) rfl rfl (ad := ⟨b3, 0, none⟩) (m := 1) (c := 1) rfl [(⟨(UInt8.ofNat ((l.l.getD a8 default) % 256).toNat), false, (0 : UInt8)⟩ : Pass)] rfl Pass.cells_n (fun j u hu => cell_of_news (H.ro_at 0 rfl) j u hu) (by intro x; simp [Pass.cells, Value.oneCell']) (by first | omega | (simp only [List.length_append, List.length_cons, List.length_nil]; omega)) (by first | omega | (simp only [List.length_append, List.length_cons, List.length_nil]; omega)) (by simp) ?_
   clear H; intro b4 w5 H; simp only [M] at H
   simp only [N]
   refine wasg b4 ?_; simp only [N]
   refine wpList_nil ?_
   refine wp_region_lit ?_; refine wr (rp_int_add rfl (a8 : Int) (1 : Int) rfl rfl (by omega)) ?_; simp only [N]
   refine wmv (iv ((a8 : Int) + (1 : Int))) ?_; simp only [N]
   refine wpList_nil ?_
   replace H := H.facts (R' := [SlIn 1 eInt l]) (by first | exact fun _ h => h | simp)
   show ∃ n', n' < _ ∧ _
   refine ⟨_, ?_, (a8 + 1), (arow1 ++ [(⟨(UInt8.ofNat ((l.l.getD a8 default) % 256).toNat), false, (0 : UInt8)⟩ : Pass)]), b4, (by kernel_rfl), H, (by omega), (by first | omega | (simp only [List.length_append, List.length_cons, List.length_nil]; omega)), (hFa2.trans (bf hc2)).trans (congrFun hra _), rfl⟩
   omega
 · --F 1
  have hc1N4 : (l.l.length : Int) ≤ (a8 : Int) := (by simpa using hc1)
  have hFa2 := hFa.trans (loopL_end (show l.l.length ≤ a8 by omega))
  refine wp_exit ?_
  refine wsr ?_
  refine wmv avrow1 ?_; simp only [N]
  refine wasg avrow1 ?_; simp only [N]
  refine wpList_nil ?_
  refine wp_ret ?_
  try simp only [Exit.inBlock, Exit.then, cutP]
  refine bodyPost_ret (results1 rfl (rv_tmp rfl)) rfl ?_
  obtain ⟨sl1, hsv1, hsf1⟩ := fresh_row H 0 rfl arow1 rfl rfl Pass.cells_n (by first | omega | (simp only [List.length_append, List.length_cons, List.length_nil]; omega))
  subst hsv1
  have hF : (ofF l.l) = arow1 := hFa2
  rw [hF]
  exact ⟨sl1, rfl, H.ext, hsf1⟩

def bufF_q1 (b2 b3 b6 b4 b5 : Nat) : Prog := ⟨(⟨#[115, 98]⟩ : ByteArray), (⟨some ⟨b2, 0, none⟩, 2, [(⟨#[120]⟩ : ByteArray), (⟨#[121]⟩ : ByteArray)]⟩ : Sl ByteArray), (⟨some ⟨b3, 0, none⟩, 2, [(0 : UInt8), (0 : UInt8)]⟩ : Sl UInt8), (⟨some ⟨b6, 0, none⟩, 2, [(⟨some ⟨b4, 0, none⟩, 2, [(⟨(2 : UInt8), (0 : UInt8), (0 : UInt8), ⟨false, (1 : UInt8)⟩, ⟨false, (0 : UInt8)⟩, (0 : UInt8), (0 : UInt8), (0 : UInt8)⟩ : Ins), (⟨(1 : UInt8), (0 : UInt8), (1 : UInt8), ⟨false, (0 : UInt8)⟩, ⟨false, (0 : UInt8)⟩, (0 : UInt8), (0 : UInt8), (0 : UInt8)⟩ : Ins)]⟩ : Sl Ins), (⟨some ⟨b5, 0, none⟩, 2, [(⟨(2 : UInt8), (0 : UInt8), (1 : UInt8), ⟨false, (1 : UInt8)⟩, ⟨false, (0 : UInt8)⟩, (0 : UInt8), (0 : UInt8), (0 : UInt8)⟩ : Ins), (⟨(1 : UInt8), (0 : UInt8), (0 : UInt8), ⟨false, (0 : UInt8)⟩, ⟨false, (0 : UInt8)⟩, (0 : UInt8), (0 : UInt8), (0 : UInt8)⟩ : Ins)]⟩ : Sl Ins)]⟩ : Sl (Sl Ins)), (1 : UInt8), .mk (0 : UInt8) (0 : UInt8) (0 : UInt8) (0 : UInt8) none 0 []⟩
theorem bufF_spec (w : World) :
    Calls Tryz.prog 36 #[] w fun e w' => ∃ x : Nat × Nat × Nat × Nat × Nat, e = .returned (.agg ((bufF_q1 x.1 x.2.1 x.2.2.1 x.2.2.2.1 x.2.2.2.2).cells).toArray) ∧ Ext w w' ∧ Fresh w w' (IsProg (bufF_q1 x.1 x.2.1 x.2.2.1 x.2.2.2.1 x.2.2.2.2)) := by
 have H := Own.start w
 go_enter Tryz.func36, Tryz.ntmps36
 refine wsr ?_
 refine wl_alloc H rfl rfl zv29 ?_
 clear H; intro b1 w1 hnb1 H; dsimp only [Value.cells] at H
 simp only [N]
 refine wnr ?_
 refine wl_xallocF H rfl (xa_buildSlice rfl Tryz.underlying22 sz9 zv9 (by decide) (by decide) (vs := [(0, .string (⟨#[120]⟩ : ByteArray)), (1, .string (⟨#[121]⟩ : ByteArray))]) rfl (cs := #[.string (⟨#[120]⟩ : ByteArray), .string (⟨#[121]⟩ : ByteArray)]) (by kernel_rfl)) ?_
 clear H; intro b2 w2 hnb2 H
 simp only [N]
 refine wl_xallocF H rfl (xa_buildSlice rfl Tryz.underlying23 sz5 zv5 (by decide) (by decide) (vs := [(0, bv (0 : UInt8)), (1, bv (0 : UInt8))]) rfl (cs := #[bv (0 : UInt8), bv (0 : UInt8)]) (by kernel_rfl)) ?_
 clear H; intro b3 w3 hnb3 H
 simp only [N]
 refine wr (rp_build rfl (vs := [(1, bv (1 : UInt8))]) rfl (cs := #[.bool false, bv (1 : UInt8)]) (by kernel_rfl)) ?_; simp only [N]
 refine wr (rp_build rfl (vs := [(0, bv (2 : UInt8)), (2, bv (0 : UInt8)), (3, .agg #[.bool false, bv (1 : UInt8)])]) rfl (cs := #[bv (2 : UInt8), bv (0 : UInt8), bv (0 : UInt8), .bool false, bv (1 : UInt8), .bool false, bv (0 : UInt8), bv (0 : UInt8), bv (0 : UInt8), bv (0 : UInt8)]) (by kernel_rfl)) ?_; simp only [N]
 refine wr (rp_build rfl (vs := [(0, bv (1 : UInt8)), (2, bv (1 : UInt8))]) rfl (cs := #[bv (1 : UInt8), bv (0 : UInt8), bv (1 : UInt8), .bool false, bv (0 : UInt8), .bool false, bv (0 : UInt8), bv (0 : UInt8), bv (0 : UInt8), bv (0 : UInt8)]) (by kernel_rfl)) ?_; simp only [N]
 refine wl_xallocF H rfl (xa_buildSlice rfl Tryz.underlying59 sz58 zv58 (by decide) (by decide) (vs := [(0, .agg #[bv (2 : UInt8), bv (0 : UInt8), bv (0 : UInt8), .bool false, bv (1 : UInt8), .bool false, bv (0 : UInt8), bv (0 : UInt8), bv (0 : UInt8), bv (0 : UInt8)]), (1, .agg #[bv (1 : UInt8), bv (0 : UInt8), bv (1 : UInt8), .bool false, bv (0 : UInt8), .bool false, bv (0 : UInt8), bv (0 : UInt8), bv (0 : UInt8), bv (0 : UInt8)])]) rfl (cs := #[bv (2 : UInt8), bv (0 : UInt8), bv (0 : UInt8), .bool false, bv (1 : UInt8), .bool false, bv (0 : UInt8), bv (0 : UInt8), bv (0 : UInt8), bv (0 : UInt8), bv (1 : UInt8), bv (0 : UInt8), bv (1 : UInt8), .bool false, bv (0 : UInt8), .bool false, bv (0 : UInt8), bv (0 : UInt8), bv (0 : UInt8), bv (0 : UInt8)]) (by kernel_rfl)) ?_
 clear H; intro b4 w4 hnb4 H
 simp only [N]
 refine wr (rp_build rfl (vs := [(1, bv (1 : UInt8))]) rfl (cs := #[.bool false, bv (1 : UInt8)]) (by kernel_rfl)) ?_; simp only [N]
 refine wr (rp_build rfl (vs := [(0, bv (2 : UInt8)), (2, bv (1 : UInt8)), (3, .agg #[.bool false, bv (1 : UInt8)])]) rfl (cs := #[bv (2 : UInt8), bv (0 : UInt8), bv (1 : UInt8), .bool false, bv (1 : UInt8), .bool false, bv (0 : UInt8), bv (0 : UInt8), bv (0 : UInt8), bv (0 : UInt8)]) (by kernel_rfl)) ?_; simp only [N]
 refine wr (rp_build rfl (vs := [(0, bv (1 : UInt8)), (2, bv (0 : UInt8))]) rfl (cs := #[bv (1 : UInt8), bv (0 : UInt8), bv (0 : UInt8), .bool false, bv (0 : UInt8), .bool false, bv (0 : UInt8), bv (0 : UInt8), bv (0 : UInt8), bv (0 : UInt8)]) (by kernel_rfl)) ?_; simp only [N]
 refine wl_xallocF H rfl (xa_buildSlice rfl Tryz.underlying59 sz58 zv58 (by decide) (by decide) (vs := [(0, .agg #[bv (2 : UInt8), bv (0 : UInt8), bv (1 : UInt8), .bool false, bv (1 : UInt8), .bool false, bv (0 : UInt8), bv (0 : UInt8), bv (0 : UInt8), bv (0 : UInt8)]), (1, .agg #[bv (1 : UInt8), bv (0 : UInt8), bv (0 : UInt8), .bool false, bv (0 : UInt8), .bool false, bv (0 : UInt8), bv (0 : UInt8), bv (0 : UInt8), bv (0 : UInt8)])]) rfl (cs := #[bv (2 : UInt8), bv (0 : UInt8), bv (1 : UInt8), .bool false, bv (1 : UInt8), .bool false, bv (0 : UInt8), bv (0 : UInt8), bv (0 : UInt8), bv (0 : UInt8), bv (1 : UInt8), bv (0 : UInt8), bv (0 : UInt8), .bool false, bv (0 : UInt8), .bool false, bv (0 : UInt8), bv (0 : UInt8), bv (0 : UInt8), bv (0 : UInt8)]) (by kernel_rfl)) ?_
 clear H; intro b5 w5 hnb5 H
 simp only [N]
 refine wl_xallocF H rfl (xa_buildSlice rfl Tryz.underlying24 sz59 zv59 (by decide) (by decide) (vs := [(0, .slice (some ⟨b4, 0, none⟩) 2 2), (1, .slice (some ⟨b5, 0, none⟩) 2 2)]) rfl (cs := #[.slice (some ⟨b4, 0, none⟩) 2 2, .slice (some ⟨b5, 0, none⟩) 2 2]) (by kernel_rfl)) ?_
 clear H; intro b6 w6 hnb6 H
 simp only [N]
 replace H := H.infer (IsProg (bufF_q1 b2 b3 b6 b4 b5)) (fun _ hR => (show IsProg (bufF_q1 b2 b3 b6 b4 b5) _ from by unfold bufF_q1; exact ⟨(slin_blk (ro_mem hR 4 rfl) ⟨[], rfl⟩ eStrN (Nat.le_of_ble_eq_true rfl)), (slin_blk (ro_mem hR 3 rfl) ⟨[], rfl⟩ eByteN (Nat.le_of_ble_eq_true rfl)), (slin_blk (ro_mem hR 0 rfl) ⟨[], rfl⟩ eSlN (Nat.le_of_ble_eq_true rfl)), List.forall_mem_cons.2 ⟨(slin_blk (ro_mem hR 2 rfl) ⟨[], rfl⟩ insN (Nat.le_of_ble_eq_true rfl)), List.forall_mem_cons.2 ⟨(slin_blk (ro_mem hR 1 rfl) ⟨[], rfl⟩ insN (Nat.le_of_ble_eq_true rfl)), fun _ h => by cases h⟩⟩, .mk _ (slin_nil condN) (fun _ h => by cases h), by first | exact Nat.le_of_ble_eq_true rfl | omega, List.forall_mem_cons.2 ⟨by first | exact Nat.le_of_ble_eq_true rfl | omega, List.forall_mem_cons.2 ⟨by first | exact Nat.le_of_ble_eq_true rfl | omega, fun _ h => by cases h⟩⟩, by simp [deepF, deepsF]⟩))
 refine wr (rp_build rfl (vs := [(0, .string (⟨#[115, 98]⟩ : ByteArray)), (1, .slice (some ⟨b2, 0, none⟩) 2 2), (2, .slice (some ⟨b3, 0, none⟩) 2 2), (4, bv (1 : UInt8)), (3, .slice (some ⟨b6, 0, none⟩) 2 2)]) rfl (cs := ((bufF_q1 b2 b3 b6 b4 b5).cells).toArray) (by kernel_rfl)) ?_; simp only [N]
 refine wl_storeW H 0 rfl rfl rfl rfl (vs := ((bufF_q1 b2 b3 b6 b4 b5).cells).toArray) rfl (Prog.cells_one _) (by first | exact sz29 | (rw [sz29]; congr 1; omega)) (by first | rfl | omega) ?_
 clear H; intro w7 H; simp only [M] at H
 simp only [N]
 refine wpList_nil ?_
 refine wp_ret ?_
 try simp only [Exit.inBlock, Exit.then, cutP]
 refine bodyPost_ret (results1 rfl (rv_agg H 0 rfl rfl Tryz.underlying29 rfl (by first | exact sz29 | (rw [sz29]; congr 1; omega)))) rfl ?_
 exact ⟨(b2, b3, b6, b4, b5), rfl, H.ext, fun _ hw => (show IsProg (bufF_q1 b2 b3 b6 b4 b5) _ from by unfold bufF_q1; exact ⟨(slin_blk ((hw b2 hnb2 (Array.getElem?_eq_some_iff.1 (H.ro_at 5 rfl)).1).trans (H.ro_at 5 rfl)) ⟨[], rfl⟩ eStrN (Nat.le_of_ble_eq_true rfl)), (slin_blk ((hw b3 hnb3 (Array.getElem?_eq_some_iff.1 (H.ro_at 4 rfl)).1).trans (H.ro_at 4 rfl)) ⟨[], rfl⟩ eByteN (Nat.le_of_ble_eq_true rfl)), (slin_blk ((hw b6 hnb6 (Array.getElem?_eq_some_iff.1 (H.ro_at 1 rfl)).1).trans (H.ro_at 1 rfl)) ⟨[], rfl⟩ eSlN (Nat.le_of_ble_eq_true rfl)), List.forall_mem_cons.2 ⟨(slin_blk ((hw b4 hnb4 (Array.getElem?_eq_some_iff.1 (H.ro_at 3 rfl)).1).trans (H.ro_at 3 rfl)) ⟨[], rfl⟩ insN (Nat.le_of_ble_eq_true rfl)), List.forall_mem_cons.2 ⟨(slin_blk ((hw b5 hnb5 (Array.getElem?_eq_some_iff.1 (H.ro_at 2 rfl)).1).trans (H.ro_at 2 rfl)) ⟨[], rfl⟩ insN (Nat.le_of_ble_eq_true rfl)), fun _ h => by cases h⟩⟩, .mk _ (slin_nil condN) (fun _ h => by cases h), by first | exact Nat.le_of_ble_eq_true rfl | omega, List.forall_mem_cons.2 ⟨by first | exact Nat.le_of_ble_eq_true rfl | omega, List.forall_mem_cons.2 ⟨by first | exact Nat.le_of_ble_eq_true rfl | omega, fun _ h => by cases h⟩⟩, by simp [deepF, deepsF]⟩)⟩

def bPlaysF (picks : List UInt8) (a : UInt8) (b : UInt8) (order : List Int) (B_ : Prog) : Bool :=
  bif ((((((bPlayF B_ (2 : UInt8) picks).2.2 == (0 : Int)) && (((bPlayF B_ (2 : UInt8) picks).1.getD 0 0) == a)) && (((bPlayF B_ (2 : UInt8) picks).1.getD 8 0) == b)) && (((bPlayF B_ (2 : UInt8) picks).1.getD 32 0) == (1 : UInt8))) && (((bPlayF B_ (2 : UInt8) picks).1.getD 33 0) == (1 : UInt8))) then (passesEq ((bPlayF B_ (2 : UInt8) picks).2.1) (ofF order)) else false


theorem bPlaysF_spec (picks : Sl UInt8) (a : UInt8) (b : UInt8) (order : Sl Int) (B_ : Prog) (hB : B_ = bufF_q1 0 0 0 0 0) (hn : order.l.length ≤ 100) (hb : order.l.all (fun x => decide (-128 ≤ x) && decide (x ≤ 127)) = true) (w : World) (hpicks : (SlIn 1 eByte picks) w) (horder : (SlIn 1 eInt order) w) (hg_ : Glob w) :
    Calls Tryz.prog 38 #[picks.val, bv a, bv b, order.val] w fun e w' => e = .returned (.bool (bPlaysF picks.l a b order.l B_)) ∧ Ext w w' := by
 have H := Own.start_ro w [SlIn 1 eByte picks, SlIn 1 eInt order, Glob] (List.forall_mem_cons.2 ⟨fun w' hw => hpicks.keep hw, List.forall_mem_cons.2 ⟨fun w' hw => horder.keep hw, List.forall_mem_cons.2 ⟨fun w' hw => hg_.keep hw, fun _ h => by cases h⟩⟩⟩)
 have hcpicks := hpicks.2.2
 have hcorder := horder.2.2
 go_enter Tryz.func38, Tryz.ntmps38
 refine wsr ?_
 refine wasg (.bool false) ?_; simp only [N]
 refine wnr ?_
 refine wl_callFA H rfl (rc_go Tryz.func36 (by kernel_rfl) rfl) (bufF_spec _) ?_
 clear H; intro x1_ w1 H
 simp only [N]
 replace H := H.infer (IsProg (bufF_q1 x1_.1 x1_.2.1 x1_.2.2.1 x1_.2.2.2.1 x1_.2.2.2.2)) (fun _ hR => FreshAt.now (ro_mem hR 0 rfl))
 refine wmv (picks.val) ?_; simp only [N]
 refine wl_callFA H rfl (rc_go Tryz.func17 (by kernel_rfl) rfl) (by have hq := bPlayF_spec (bufF_q1 x1_.1 x1_.2.1 x1_.2.2.1 x1_.2.2.2.1 x1_.2.2.2.2) (2 : UInt8) picks _ (H.ro_at 0 rfl) (H.ro_at 2 rfl) (H.ro_at 4 rfl); rw [show (bPlayF (bufF_q1 x1_.1 x1_.2.1 x1_.2.2.1 x1_.2.2.2.1 x1_.2.2.2.2) (2 : UInt8) picks.l) = (bPlayF B_ (2 : UInt8) picks.l) from by rw [← bPlayF_er (bufF_q1 x1_.1 x1_.2.1 x1_.2.2.1 x1_.2.2.2.1 x1_.2.2.2.2), show er (bufF_q1 x1_.1 x1_.2.1 x1_.2.2.1 x1_.2.2.2.1 x1_.2.2.2.2) = er B_ from (by rw [hB]; rfl), bPlayF_er]] at hq; exact hq) ?_
 clear H; intro x2_ w2 H
 simp only [N]
 have hcx2_0 : ((bPlayF B_ (2 : UInt8) picks.l).2.1).length ≤ 140737488355328 := (FreshAt.now (H.ro_at 0 rfl)).2.2.1
 refine wmv (.tuple #[.agg (enc (bPlayF B_ (2 : UInt8) picks.l).1).toArray, (⟨x2_.1, x2_.2, (bPlayF B_ (2 : UInt8) picks.l).2.1⟩ : Sl Pass).val, iv (bPlayF B_ (2 : UInt8) picks.l).2.2]) ?_; simp only [N]
 refine wr (rp_extract rfl rfl (v := .agg (enc (bPlayF B_ (2 : UInt8) picks.l).1).toArray) rfl) ?_; simp only [N]
 refine wr (rp_extract rfl rfl (v := (⟨x2_.1, x2_.2, (bPlayF B_ (2 : UInt8) picks.l).2.1⟩ : Sl Pass).val) rfl) ?_; simp only [N]
 refine wr (rp_extract rfl rfl (v := iv (bPlayF B_ (2 : UInt8) picks.l).2.2) rfl) ?_; simp only [N]
 refine wl_alloc H rfl rfl zv64 ?_
 clear H; intro b1 w3 hnb1 H; dsimp only [Value.cells] at H
 simp only [N]
 simp only [enc_replicate] at H
 refine wl_storeA H 0 rfl rfl rfl rfl (bPlayF B_ (2 : UInt8) picks.l).1 rfl sz64 ?_
 clear H; intro w4 H; simp only [M] at H
 simp only [N]
 refine wasg ((⟨x2_.1, x2_.2, (bPlayF B_ (2 : UInt8) picks.l).2.1⟩ : Sl Pass).val) ?_; simp only [N]
 refine wasg (iv (bPlayF B_ (2 : UInt8) picks.l).2.2) ?_; simp only [N]
 refine wnr ?_
 refine wmv (iv (bPlayF B_ (2 : UInt8) picks.l).2.2) ?_; simp only [N]
 refine wr (rp_int_eql rfl (bPlayF B_ (2 : UInt8) picks.l).2.2 (0 : Int) rfl rfl) ?_; simp only [N]
 refine wmv (.bool ((bPlayF B_ (2 : UInt8) picks.l).2.2 == (0 : Int))) ?_; simp only [N]
 refine wl_g (wn_t rfl rfl) (v := .pointer (some ⟨b1, 0, none⟩)) (fun hg => rp_fieldAddr rfl Tryz.underlying64 rfl 0 rfl sz62 rfl 0 rfl) ?_; simp only [N]
 refine wl_g (wn_t rfl rfl) (v := .pointer (some ⟨b1, 0, none⟩)) (fun hg => by have x2 : (bPlayF B_ (2 : UInt8) picks.l).2.2 = (0 : Int) := (by simpa using hg); exact (by simp only [gv_t hg]; exact rp_indexAddr_arr rfl Tryz.underlying62 sz30 rfl 0 rfl (by omega) 0 (by omega))) ?_; simp only [N]
 refine wl_g (wn_t rfl rfl) (v := .pointer (some ⟨b1, 0, none⟩)) (fun hg => by have x3 : (bPlayF B_ (2 : UInt8) picks.l).2.2 = (0 : Int) := (by simpa using hg); exact (by simp only [gv_t hg]; exact rp_indexAddr_arr rfl Tryz.underlying30 sz5 rfl 0 rfl (by omega) 0 (by omega))) ?_; simp only [N]
 refine wl_g (wn_t rfl rfl) (v := bv ((bPlayF B_ (2 : UInt8) picks.l).1.getD 0 0)) (fun hg => by have x4 : (bPlayF B_ (2 : UInt8) picks.l).2.2 = (0 : Int) := (by simpa using hg); exact (by simp only [gv_t hg]; exact rp_load1A H 0 rfl rfl rfl Tryz.underlying5 rfl 0 rfl)) ?_; simp only [N]
 refine wl_g (wn_t rfl rfl) (v := bv a) (fun hg => rp_move rfl (v := bv a) rfl) ?_; simp only [N]
 refine wl_g (wn_t rfl rfl) (v := .bool (((bPlayF B_ (2 : UInt8) picks.l).1.getD 0 0) == a)) (fun hg => by have x6 : (bPlayF B_ (2 : UInt8) picks.l).2.2 = (0 : Int) := (by simpa using hg); exact (by simp only [gv_t hg]; exact rp_u8_eql rfl ((bPlayF B_ (2 : UInt8) picks.l).1.getD 0 0) a rfl rfl)) ?_; simp only [N]
 refine wr (rp_pickA rfl (p := ((bPlayF B_ (2 : UInt8) picks.l).2.2 == (0 : Int))) (q := (((bPlayF B_ (2 : UInt8) picks.l).1.getD 0 0) == a)) rfl rfl rfl) ?_; simp only [N]
 refine wmv (.bool (((bPlayF B_ (2 : UInt8) picks.l).2.2 == (0 : Int)) && (((bPlayF B_ (2 : UInt8) picks.l).1.getD 0 0) == a))) ?_; simp only [N]
 refine wl_g (wn_t rfl rfl) (v := .pointer (some ⟨b1, 0, none⟩)) (fun hg => rp_fieldAddr rfl Tryz.underlying64 rfl 0 rfl sz62 rfl 0 rfl) ?_; simp only [N]
 refine wl_g (wn_t rfl rfl) (v := .pointer (some ⟨b1, 8, none⟩)) (fun hg => by have x9 : (bPlayF B_ (2 : UInt8) picks.l).2.2 = (0 : Int) := (by simpa using (andl hg)); have x10 : ((bPlayF B_ (2 : UInt8) picks.l).1.getD 0 0).toNat = a.toNat := u8_eq (andr hg); exact (by simp only [gv_t hg]; exact rp_indexAddr_arr rfl Tryz.underlying62 sz30 rfl 1 rfl (by omega) 8 (by omega))) ?_; simp only [N]
 refine wl_g (wn_t rfl rfl) (v := .pointer (some ⟨b1, 8, none⟩)) (fun hg => by have x11 : (bPlayF B_ (2 : UInt8) picks.l).2.2 = (0 : Int) := (by simpa using (andl hg)); have x12 : ((bPlayF B_ (2 : UInt8) picks.l).1.getD 0 0).toNat = a.toNat := u8_eq (andr hg); exact (by simp only [gv_t hg]; exact rp_indexAddr_arr rfl Tryz.underlying30 sz5 rfl 0 rfl (by omega) 8 (by omega))) ?_; simp only [N]
 refine wl_g (wn_t rfl rfl) (v := bv ((bPlayF B_ (2 : UInt8) picks.l).1.getD 8 0)) (fun hg => by have x13 : (bPlayF B_ (2 : UInt8) picks.l).2.2 = (0 : Int) := (by simpa using (andl hg)); have x14 : ((bPlayF B_ (2 : UInt8) picks.l).1.getD 0 0).toNat = a.toNat := u8_eq (andr hg); exact (by simp only [gv_t hg]; exact rp_load1A H 0 rfl rfl rfl Tryz.underlying5 rfl 8 rfl)) ?_; simp only [N]
 refine wl_g (wn_t rfl rfl) (v := bv b) (fun hg => rp_move rfl (v := bv b) rfl) ?_; simp only [N]
 refine wl_g (wn_t rfl rfl) (v := .bool (((bPlayF B_ (2 : UInt8) picks.l).1.getD 8 0) == b)) (fun hg => by have x17 : (bPlayF B_ (2 : UInt8) picks.l).2.2 = (0 : Int) := (by simpa using (andl hg)); have x18 : ((bPlayF B_ (2 : UInt8) picks.l).1.getD 0 0).toNat = a.toNat := u8_eq (andr hg); exact (by simp only [gv_t hg]; exact rp_u8_eql rfl ((bPlayF B_ (2 : UInt8) picks.l).1.getD 8 0) b rfl rfl)) ?_; simp only [N]
 refine wr (rp_pickA rfl (p := (((bPlayF B_ (2 : UInt8) picks.l).2.2 == (0 : Int)) && (((bPlayF B_ (2 : UInt8) picks.l).1.getD 0 0) == a))) (q := (((bPlayF B_ (2 : UInt8) picks.l).1.getD 8 0) == b)) rfl rfl rfl) ?_; simp only [N]
 refine wmv (.bool ((((bPlayF B_ (2 : UInt8) picks.l).2.2 == (0 : Int)) && (((bPlayF B_ (2 : UInt8) picks.l).1.getD 0 0) == a)) && (((bPlayF B_ (2 : UInt8) picks.l).1.getD 8 0) == b))) ?_; simp only [N]
 refine wl_g (wn_t rfl rfl) (v := .pointer (some ⟨b1, 32, none⟩)) (fun hg => rp_fieldAddr rfl Tryz.underlying64 rfl 32 rfl sz34 rfl 32 rfl) ?_; simp only [N]
 refine wl_g (wn_t rfl rfl) (v := .pointer (some ⟨b1, 32, none⟩)) (fun hg => by have x22 : (bPlayF B_ (2 : UInt8) picks.l).2.2 = (0 : Int) := (by simpa using (andl (andl hg))); have x23 : ((bPlayF B_ (2 : UInt8) picks.l).1.getD 0 0).toNat = a.toNat := u8_eq (andr (andl hg)); have x24 : ((bPlayF B_ (2 : UInt8) picks.l).1.getD 8 0).toNat = b.toNat := u8_eq (andr hg); exact (by simp only [gv_t hg]; exact rp_indexAddr_arr rfl Tryz.underlying34 sz5 rfl 0 rfl (by omega) 32 (by omega))) ?_; simp only [N]
 refine wl_g (wn_t rfl rfl) (v := bv ((bPlayF B_ (2 : UInt8) picks.l).1.getD 32 0)) (fun hg => by have x25 : (bPlayF B_ (2 : UInt8) picks.l).2.2 = (0 : Int) := (by simpa using (andl (andl hg))); have x26 : ((bPlayF B_ (2 : UInt8) picks.l).1.getD 0 0).toNat = a.toNat := u8_eq (andr (andl hg)); have x27 : ((bPlayF B_ (2 : UInt8) picks.l).1.getD 8 0).toNat = b.toNat := u8_eq (andr hg); exact (by simp only [gv_t hg]; exact rp_load1A H 0 rfl rfl rfl Tryz.underlying5 rfl 32 rfl)) ?_; simp only [N]
 refine wl_g (wn_t rfl rfl) (v := .bool (((bPlayF B_ (2 : UInt8) picks.l).1.getD 32 0) == (1 : UInt8))) (fun hg => by have x28 : (bPlayF B_ (2 : UInt8) picks.l).2.2 = (0 : Int) := (by simpa using (andl (andl hg))); have x29 : ((bPlayF B_ (2 : UInt8) picks.l).1.getD 0 0).toNat = a.toNat := u8_eq (andr (andl hg)); have x30 : ((bPlayF B_ (2 : UInt8) picks.l).1.getD 8 0).toNat = b.toNat := u8_eq (andr hg); exact (by simp only [gv_t hg]; exact rp_u8_eql rfl ((bPlayF B_ (2 : UInt8) picks.l).1.getD 32 0) (1 : UInt8) rfl rfl)) ?_; simp only [N]
 refine wr (rp_pickA rfl (p := ((((bPlayF B_ (2 : UInt8) picks.l).2.2 == (0 : Int)) && (((bPlayF B_ (2 : UInt8) picks.l).1.getD 0 0) == a)) && (((bPlayF B_ (2 : UInt8) picks.l).1.getD 8 0) == b))) (q := (((bPlayF B_ (2 : UInt8) picks.l).1.getD 32 0) == (1 : UInt8))) rfl rfl rfl) ?_; simp only [N]
 refine wmv (.bool (((((bPlayF B_ (2 : UInt8) picks.l).2.2 == (0 : Int)) && (((bPlayF B_ (2 : UInt8) picks.l).1.getD 0 0) == a)) && (((bPlayF B_ (2 : UInt8) picks.l).1.getD 8 0) == b)) && (((bPlayF B_ (2 : UInt8) picks.l).1.getD 32 0) == (1 : UInt8)))) ?_; simp only [N]
 refine wl_g (wn_t rfl rfl) (v := .pointer (some ⟨b1, 32, none⟩)) (fun hg => rp_fieldAddr rfl Tryz.underlying64 rfl 32 rfl sz34 rfl 32 rfl) ?_; simp only [N]
 refine wl_g (wn_t rfl rfl) (v := .pointer (some ⟨b1, 33, none⟩)) (fun hg => by have x35 : (bPlayF B_ (2 : UInt8) picks.l).2.2 = (0 : Int) := (by simpa using (andl (andl (andl hg)))); have x36 : ((bPlayF B_ (2 : UInt8) picks.l).1.getD 0 0).toNat = a.toNat := u8_eq (andr (andl (andl hg))); have x37 : ((bPlayF B_ (2 : UInt8) picks.l).1.getD 8 0).toNat = b.toNat := u8_eq (andr (andl hg)); have x38 : ((bPlayF B_ (2 : UInt8) picks.l).1.getD 32 0).toNat = 1 := u8_eq (andr hg); exact (by simp only [gv_t hg]; exact rp_indexAddr_arr rfl Tryz.underlying34 sz5 rfl 1 rfl (by omega) 33 (by omega))) ?_; simp only [N]
 refine wl_g (wn_t rfl rfl) (v := bv ((bPlayF B_ (2 : UInt8) picks.l).1.getD 33 0)) (fun hg => by have x39 : (bPlayF B_ (2 : UInt8) picks.l).2.2 = (0 : Int) := (by simpa using (andl (andl (andl hg)))); have x40 : ((bPlayF B_ (2 : UInt8) picks.l).1.getD 0 0).toNat = a.toNat := u8_eq (andr (andl (andl hg))); have x41 : ((bPlayF B_ (2 : UInt8) picks.l).1.getD 8 0).toNat = b.toNat := u8_eq (andr (andl hg)); have x42 : ((bPlayF B_ (2 : UInt8) picks.l).1.getD 32 0).toNat = 1 := u8_eq (andr hg); exact (by simp only [gv_t hg]; exact rp_load1A H 0 rfl rfl rfl Tryz.underlying5 rfl 33 rfl)) ?_; simp only [N]
 refine wl_g (wn_t rfl rfl) (v := .bool (((bPlayF B_ (2 : UInt8) picks.l).1.getD 33 0) == (1 : UInt8))) (fun hg => by have x43 : (bPlayF B_ (2 : UInt8) picks.l).2.2 = (0 : Int) := (by simpa using (andl (andl (andl hg)))); have x44 : ((bPlayF B_ (2 : UInt8) picks.l).1.getD 0 0).toNat = a.toNat := u8_eq (andr (andl (andl hg))); have x45 : ((bPlayF B_ (2 : UInt8) picks.l).1.getD 8 0).toNat = b.toNat := u8_eq (andr (andl hg)); have x46 : ((bPlayF B_ (2 : UInt8) picks.l).1.getD 32 0).toNat = 1 := u8_eq (andr hg); exact (by simp only [gv_t hg]; exact rp_u8_eql rfl ((bPlayF B_ (2 : UInt8) picks.l).1.getD 33 0) (1 : UInt8) rfl rfl)) ?_; simp only [N]
 refine wr (rp_pickA rfl (p := (((((bPlayF B_ (2 : UInt8) picks.l).2.2 == (0 : Int)) && (((bPlayF B_ (2 : UInt8) picks.l).1.getD 0 0) == a)) && (((bPlayF B_ (2 : UInt8) picks.l).1.getD 8 0) == b)) && (((bPlayF B_ (2 : UInt8) picks.l).1.getD 32 0) == (1 : UInt8)))) (q := (((bPlayF B_ (2 : UInt8) picks.l).1.getD 33 0) == (1 : UInt8))) rfl rfl rfl) ?_; simp only [N]
 refine wmv (.bool ((((((bPlayF B_ (2 : UInt8) picks.l).2.2 == (0 : Int)) && (((bPlayF B_ (2 : UInt8) picks.l).1.getD 0 0) == a)) && (((bPlayF B_ (2 : UInt8) picks.l).1.getD 8 0) == b)) && (((bPlayF B_ (2 : UInt8) picks.l).1.getD 32 0) == (1 : UInt8))) && (((bPlayF B_ (2 : UInt8) picks.l).1.getD 33 0) == (1 : UInt8)))) ?_; simp only [N]
 refine wl_g (wn_t rfl rfl) (v := (⟨x2_.1, x2_.2, (bPlayF B_ (2 : UInt8) picks.l).2.1⟩ : Sl Pass).val) (fun hg => rp_move rfl (v := (⟨x2_.1, x2_.2, (bPlayF B_ (2 : UInt8) picks.l).2.1⟩ : Sl Pass).val) rfl) ?_; simp only [N]
 refine wl_g (wn_t rfl rfl) (v := order.val) (fun hg => rp_move rfl (v := order.val) rfl) ?_; simp only [N]
 rcases Bool.eq_false_or_eq_true ((((((bPlayF B_ (2 : UInt8) picks.l).2.2 == (0 : Int)) && (((bPlayF B_ (2 : UInt8) picks.l).1.getD 0 0) == a)) && (((bPlayF B_ (2 : UInt8) picks.l).1.getD 8 0) == b)) && (((bPlayF B_ (2 : UInt8) picks.l).1.getD 32 0) == (1 : UInt8))) && (((bPlayF B_ (2 : UInt8) picks.l).1.getD 33 0) == (1 : UInt8))) with hg1 | hg1
 · --true
  have x62 : (bPlayF B_ (2 : UInt8) picks.l).2.2 = (0 : Int) := (by simpa using (andl (andl (andl (andl hg1)))))
  have x63 : ((bPlayF B_ (2 : UInt8) picks.l).1.getD 0 0).toNat = a.toNat := u8_eq (andr (andl (andl (andl hg1))))
  have x64 : ((bPlayF B_ (2 : UInt8) picks.l).1.getD 8 0).toNat = b.toNat := u8_eq (andr (andl (andl hg1)))
  have x65 : ((bPlayF B_ (2 : UInt8) picks.l).1.getD 32 0).toNat = 1 := u8_eq (andr (andl hg1))
  have x66 : ((bPlayF B_ (2 : UInt8) picks.l).1.getD 33 0).toNat = 1 := u8_eq (andr hg1)
  simp only [(andl (andl (andl (andl hg1)))), gv_t (andl (andl (andl (andl hg1)))), (andl (andl (andl hg1))), gv_t (andl (andl (andl hg1))), (andl (andl hg1)), gv_t (andl (andl hg1)), (andl hg1), gv_t (andl hg1), hg1, gv_t hg1, (andr (andl (andl (andl hg1)))), (andr (andl (andl hg1))), (andr (andl hg1)), (andr hg1), Bool.true_and, Bool.and_true]
  refine wl_callFA H rfl (rc_go Tryz.func37 (by kernel_rfl) rfl) (ofF_spec order (by assumption) (by assumption) _ (H.ro_at 4 rfl)) ?_
  clear H; intro x4_ w5 H
  simp only [N]
  have hcx4_0 : (ofF order.l).length ≤ 140737488355328 := (FreshAt.now (H.ro_at 0 rfl)).2.2.1
  refine wl_callE H rfl (rc_go Tryz.func27 (by kernel_rfl) rfl) (passesEq_spec (⟨x2_.1, x2_.2, (bPlayF B_ (2 : UInt8) picks.l).2.1⟩ : Sl Pass) (⟨x4_.1, x4_.2, (ofF order.l)⟩ : Sl Pass) _ (FreshAt.now (H.ro_at 1 rfl)) (FreshAt.now (H.ro_at 0 rfl))) ?_
  clear H; intro w6 H
  simp only [N]
  refine wr (rp_pickT rfl rfl (u := .bool (passesEq ((bPlayF B_ (2 : UInt8) picks.l).2.1) (ofF order.l))) rfl) ?_; simp only [N]
  refine wasg (.bool (passesEq ((bPlayF B_ (2 : UInt8) picks.l).2.1) (ofF order.l))) ?_; simp only [N]
  refine wpList_nil ?_
  refine wp_ret ?_
  try simp only [Exit.inBlock, Exit.then, cutP]
  refine bodyPost_ret (results1 rfl (rv_tmp rfl)) rfl ?_
  have hF : (bPlaysF picks.l a b order.l B_) = (passesEq ((bPlayF B_ (2 : UInt8) picks.l).2.1) (ofF order.l)) := bt hg1
  rw [hF]
  exact ⟨rfl, H.ext⟩
 · --false
  simp only [hg1]
  refine wskf ?_; simp only [N]
  refine wskf ?_; simp only [N]
  refine wr (rp_pickF rfl rfl (v := .bool false) rfl) ?_; simp only [N]
  refine wasg (.bool false) ?_; simp only [N]
  refine wpList_nil ?_
  refine wp_ret ?_
  try simp only [Exit.inBlock, Exit.then, cutP]
  refine bodyPost_ret (results1 rfl (rv_tmp rfl)) rfl ?_
  have hF : (bPlaysF picks.l a b order.l B_) = false := bf hg1
  rw [hF]
  exact ⟨rfl, H.ext⟩

end Go.Proofs.YtimonjemjhecoaaGreatDoor
