/- Walks, printed by a program of this repository (wip/tool). -/
import Derived.Test.YtimonjemjhecoaaGreatDoorAny
import Derived.Test.YtimonjemjhecoaaGreatDoorArr2
namespace Go.Proofs.YtimonjemjhecoaaGreatDoor
open Go.RowKit
open Go
attribute [local irreducible] wpList wpQuiet wpX Code.wp
set_option maxHeartbeats 1000000
set_option maxRecDepth 100000
set_option linter.unusedSimpArgs false
set_option linter.unusedVariables false

structure Pass where
  thread : UInt8
  drain : Bool
  loc : UInt8
  deriving DecidableEq, Inhabited
def Pass.cells (x : Pass) : List Value := [bv x.thread, .bool x.drain, bv x.loc]
theorem Pass.cells_one (x : Pass) : ∀ v ∈ x.cells.toArray.toList, v.oneCell' = true := by simp [Pass.cells, Value.oneCell']
theorem Pass.cells_n (x : Pass) : x.cells.length = 3 ∧ 0 < 3 := by simp [Pass.cells]
theorem Pass.cells_iff (x y : Pass) : decide (x = y) = true ↔ x.cells = y.cells := by
  rw [decide_eq_true_iff]
  apply Iff.symm
  obtain ⟨a, b, c⟩ := x
  obtain ⟨d, e, f⟩ := y
  simp [Pass.cells, bv]
  exact and_congr ⟨fun h => UInt8.toNat_inj.1 (by omega), fun h => by rw [h]⟩ (and_congr Iff.rfl ⟨fun h => UInt8.toNat_inj.1 (by omega), fun h => by rw [h]⟩)
theorem u8_succ {a b : UInt8} (h : decide (a < b) = true) : (a + 1).toNat = a.toNat + 1 := by
  have h1 := UInt8.lt_iff_toNat_lt.1 (of_decide_eq_true h)
  have h2 := UInt8.toNat_lt b
  rw [UInt8.toNat_add]
  have : (1 : UInt8).toNat = 1 := rfl
  omega
theorem u8_sub1 (a : UInt8) : a.toNat = 0 ∨ (a - 1).toNat = a.toNat - 1 := by
  rcases Nat.eq_zero_or_pos a.toNat with h | h
  · exact .inl h
  · right
    have h2 := UInt8.toNat_lt a
    rw [UInt8.toNat_sub]
    have : (1 : UInt8).toNat = 1 := rfl
    omega
theorem umin_le (a : UInt8) : (if (12 : UInt8) < a then (12 : UInt8) else a).toNat ≤ 12 := by
  split
  · decide
  · rename_i h
    have h2 : ¬ (12 : UInt8).toNat < a.toNat := fun hh => h (UInt8.lt_iff_toNat_lt.2 hh)
    have : (12 : UInt8).toNat = 12 := rfl
    omega
def knownF (mach : UInt8) : Bool :=
  ((decide ((1 : UInt8) ≤ mach)) && (decide (mach ≤ (3 : UInt8))))


theorem knownF_spec (mach : UInt8) (w : World) :
    Calls Tryz.prog 40 #[bv mach] w fun e w' => e = .returned (.bool (knownF mach)) ∧ Ext w w' := by
 have H := Own.start w
 go_enter Tryz.func40, Tryz.ntmps40
 refine wsr ?_
 refine wasg (.bool false) ?_; simp only [N]
 refine wnr ?_
 refine wmv (bv mach) ?_; simp only [N]
 refine wr (rp_u8_geq rfl mach (1 : UInt8) rfl rfl) ?_; simp only [N]
 refine wmv (.bool (decide ((1 : UInt8) ≤ mach))) ?_; simp only [N]
 refine wl_g (wn_t rfl rfl) (v := bv mach) (fun hg => rp_move rfl (v := bv mach) rfl) ?_; simp only [N]
 refine wl_g (wn_t rfl rfl) (v := .bool (decide (mach ≤ (3 : UInt8)))) (fun hg => by have x2 : 1 ≤ mach.toNat := u8_le hg; exact (by simp only [gv_t hg]; exact rp_u8_leq rfl mach (3 : UInt8) rfl rfl)) ?_; simp only [N]
 refine wr (rp_pickA rfl (p := (decide ((1 : UInt8) ≤ mach))) (q := (decide (mach ≤ (3 : UInt8)))) rfl rfl rfl) ?_; simp only [N]
 refine wasg (.bool ((decide ((1 : UInt8) ≤ mach)) && (decide (mach ≤ (3 : UInt8))))) ?_; simp only [N]
 refine wpList_nil ?_
 refine wp_ret ?_
 try simp only [Exit.inBlock, Exit.then, cutP]
 refine bodyPost_ret (results1 rfl (rv_tmp rfl)) rfl ?_
 have hF : (knownF mach) = ((decide ((1 : UInt8) ≤ mach)) && (decide (mach ≤ (3 : UInt8)))) := rfl
 rw [hF]
 exact ⟨rfl, H.ext⟩

def keptB_b (l : List UInt8) (many : Int) (mach : UInt8) (a25 : Nat) (ra : Nat → Bool) (b29 : Bool) : Bool :=
  bif b29 then false else (bif ((((mach == (3 : UInt8)) && (decide ((0 : Int) < (a25 : Int)))) && (decide ((a25 : Int) < many))) && (decide ((((l.drop (a25 * 2)).take 2).getD 0 0) < (l.getD (((a25 : Int) - (1 : Int)).toNat * 2) 0)))) then false else (ra (a25 + 1)))
def keptB_a (l : List UInt8) (many : Int) (locs : Int) (mach : UInt8) (ra : Nat → Bool) : Nat → Bool := fun s_ => match s_ with | a25 => bif ((decide (many ≤ (a25 : Int))) && (!(decide (((l.drop (a25 * 2)).take 2) = (List.replicate 2 (0 : UInt8)))))) then (keptB_b l many mach a25 ra ((decide (many ≤ (a25 : Int))) && (!(decide (((l.drop (a25 * 2)).take 2) = (List.replicate 2 (0 : UInt8))))))) else (keptB_b l many mach a25 ra ((decide ((a25 : Int) < many)) && (decide (locs ≤ ((((l.drop (a25 * 2)).take 2).getD 0 0).toNat : Int)))))
def keptB_ak : Nat → Bool := fun s_ => match s_ with | a25 => true
def keptB (l : List UInt8) (many : Int) (most : Int) (locs : Int) (mach : UInt8) : Bool :=
  bif ((decide (most < many)) || ((decide ((0 : Int) < many)) && (mach == (1 : UInt8)))) then false else (loopN (keptB_a l many locs mach) keptB_ak (12 - 0) 0)


theorem keptB_spec (l : List UInt8) (many : Int) (most : Int) (locs : Int) (mach : UInt8) (hl : l.length = 24) (w : World) :
    Calls Tryz.prog 42 #[.agg (enc l).toArray, iv many, iv most, iv locs, bv mach] w fun e w' => e = .returned (.bool (keptB l many most locs mach)) ∧ Ext w w' := by
 have H := Own.start w
 go_enter Tryz.func42, Tryz.ntmps42
 refine wsr ?_
 refine wl_box H rfl rfl (v := .agg (enc l).toArray) rfl ?_
 clear H; intro b1 w1 hnb1 H; dsimp only [Value.cells] at H
 simp only [N]
 refine wasg (.bool false) ?_; simp only [N]
 refine wpList_nil ?_
 refine wp_seq ?_; refine wsr ?_
 refine wmv (iv many) ?_; simp only [N]
 refine wmv (iv most) ?_; simp only [N]
 refine wr (rp_int_gtr rfl many most rfl rfl) ?_; simp only [N]
 refine wmv (.bool (decide (most < many))) ?_; simp only [N]
 refine wl_g (wn_f rfl rfl) (v := iv many) (fun hg => rp_move rfl (v := iv many) rfl) ?_; simp only [N]
 refine wl_g (wn_f rfl rfl) (v := .bool (decide ((0 : Int) < many))) (fun hg => by have x2 : many ≤ most := (by simpa using (notT hg)); exact (by simp only [gv_t hg]; exact rp_int_gtr rfl many (0 : Int) rfl rfl)) ?_; simp only [N]
 refine wl_g (wn_f rfl rfl) (v := .bool (decide ((0 : Int) < many))) (fun hg => by have x3 : many ≤ most := (by simpa using (notT hg)); exact (by simp only [gv_t hg]; exact rp_move rfl (v := .bool (decide ((0 : Int) < many))) rfl)) ?_; simp only [N]
 refine wl_g (wn_tg rfl rfl rfl) (v := bv mach) (fun hg => rp_move rfl (v := bv mach) rfl) ?_; simp only [N]
 refine wl_g (wn_tg rfl rfl rfl) (v := .bool (mach == (1 : UInt8))) (fun hg => by have x6 : many ≤ most := (by simpa using (notT (andl hg))); have x7 : (0 : Int) < many := (by simpa using (andr hg)); exact (by simp only [gv_t hg]; exact rp_u8_eql rfl mach (1 : UInt8) rfl rfl)) ?_; simp only [N]
 refine wl_g (wn_f rfl rfl) (v := .bool ((decide ((0 : Int) < many)) && (mach == (1 : UInt8)))) (fun hg => rp_pickAg rfl (p := (decide ((0 : Int) < many))) (q := (mach == (1 : UInt8))) hg rfl rfl rfl) ?_; simp only [N]
 refine wr (rp_pickO rfl (p := (decide (most < many))) (q := ((decide ((0 : Int) < many)) && (mach == (1 : UInt8)))) rfl rfl rfl) ?_; simp only [N]
 refine wpList_nil ?_
 refine wp_cond_split rfl (fun hc1 => ?_) (fun hc1 => ?_)
 · --T 1
  refine wsr ?_
  refine wasg (.bool false) ?_; simp only [N]
  refine wpList_nil ?_
  refine wp_ret ?_
  try simp only [Exit.inBlock, Exit.then, cutP]
  refine bodyPost_ret (results1 rfl (rv_tmp rfl)) rfl ?_
  have hF : (keptB l many most locs mach) = false := bt hc1
  rw [hF]
  exact ⟨rfl, H.ext⟩
 · --F 1
  have hc1N9 : many ≤ most := (by simpa using (orl hc1))
  refine wp_skip ?_
  refine wp_seq ?_; refine wsr ?_
  refine wr (rp_loadWA H 0 rfl rfl rfl Tryz.underlying37 rfl sz37 rfl) ?_; simp only [N]
  refine wmv (iv (0 : Int)) ?_; simp only [N]
  refine wpList_nil ?_
  refine wp_block ?_
  refine wp_loopX (fun m' a' w' => ∃ (a25 : Nat), a' = ⟨#[(tq a' 0), iv many, iv most, iv locs, bv mach, .pointer (some ⟨b1, 0, none⟩), uU, uU, uU, uU, (tq a' 10), (tq a' 11), (tq a' 12), iv many, iv most, (tq a' 15), (tq a' 16), (tq a' 17), (tq a' 18), (tq a' 19), (tq a' 20), (tq a' 21), (tq a' 22), (tq a' 23), .agg (enc l).toArray, iv (a25 : Int), (tq a' 26), (tq a' 27), (tq a' 28), (tq a' 29), (tq a' 30), (tq a' 31), (tq a' 32), (tq a' 33), (tq a' 34), (tq a' 35), (tq a' 36), (tq a' 37), (tq a' 38), (tq a' 39), (tq a' 40), (tq a' 41), (tq a' 42), (tq a' 43), (tq a' 44), (tq a' 45), (tq a' 46), (tq a' 47), (tq a' 48), (tq a' 49), (tq a' 50), (tq a' 51), (tq a' 52), (tq a' 53), (tq a' 54), (tq a' 55), (tq a' 56), (tq a' 57), (tq a' 58), (tq a' 59), (tq a' 60), (tq a' 61), (tq a' 62), (tq a' 63), (tq a' 64), (tq a' 65), (tq a' 66), (tq a' 67), (tq a' 68), (tq a' 69), (tq a' 70)], []⟩ ∧ Own w [] [] [.blk b1 (.cells (enc l).toArray 37 (0, 0))] w' ∧ (a25 ≤ 12) ∧ (keptB l many most locs mach) = loopN (keptB_a l many locs mach) keptB_ak (12 - a25) a25 ∧ m' = 12 - a25) _ ⟨0, (by kernel_rfl), H, (by omega), bf hc1, rfl⟩ ?_
  clear H
  rintro _ a_ w2 ⟨a25, ha_, H, hia0, hFa, rfl⟩
  obtain ⟨ua, hu_⟩ : ∃ u : Nat → Value, ∀ n, tq a_ n = u n := ⟨_, fun _ => rfl⟩
  try simp only [hu_] at ha_
  clear hu_; subst ha_
  refine wsr ?_
  refine wr (rp_int_lss rfl (a25 : Int) (12 : Int) rfl rfl) ?_; simp only [N]
  refine wpList_nil ?_
  refine wp_seq ?_; refine wp_cond_split rfl (fun hc2 => ?_) (fun hc2 => ?_)
  · --T 2
   have hc2N10 : (a25 : Int) < (12 : Int) := (by simpa using hc2)
   obtain ⟨ra, hra⟩ : ∃ r, r = loopN (keptB_a l many locs mach) keptB_ak (12 - (a25 + 1)) := ⟨_, rfl⟩
   have hFa2 := hFa.trans (loopN_step (show a25 < 12 by omega))
   rw [← hra] at hFa2
   refine wp_skip ?_
   refine wp_seq ?_; refine wp_block ?_
   refine wsr ?_
   refine wmv (iv (a25 : Int)) ?_; simp only [N]
   refine wr (rp_index_encN rfl Tryz.underlying37 sz36 Tryz.underlying36 rfl rfl a25 rfl (by omega)) ?_; simp only [N]
   refine wl_alloc H rfl rfl zv36 ?_
   clear H; intro b2 w3 hnb2 H; dsimp only [Value.cells] at H
   simp only [N]
   replace H : Own w [] [] [.blk b2 (.cells (enc (List.replicate 2 (0 : UInt8))).toArray 36 (0, 0)), .blk b1 (.cells (enc l).toArray 37 (0, 0))] _ := H
   refine wasg (iv (a25 : Int)) ?_; simp only [N]
   refine wl_storeA H 0 rfl rfl rfl rfl ((l.drop (a25 * 2)).take 2) rfl sz36 ?_
   clear H; intro w4 H; simp only [M] at H
   simp only [N]
   refine wpList_nil ?_
   refine wp_block ?_
   refine wp_seq ?_; refine wp_cutX (fun a' w' => ∃ (b29 : Bool), a' = ⟨#[(ua 0), iv many, iv most, iv locs, bv mach, .pointer (some ⟨b1, 0, none⟩), uU, uU, uU, uU, (ua 10), iv (a25 : Int), .pointer (some ⟨b2, 0, none⟩), iv many, iv most, (ua 15), (ua 16), (ua 17), (ua 18), (ua 19), (ua 20), (ua 21), (ua 22), (ua 23), .agg (enc l).toArray, iv (a25 : Int), (tq a' 26), (tq a' 27), (tq a' 28), .bool b29, (tq a' 30), (tq a' 31), (tq a' 32), (tq a' 33), (tq a' 34), (tq a' 35), (tq a' 36), (tq a' 37), (tq a' 38), (tq a' 39), (tq a' 40), (tq a' 41), (tq a' 42), (tq a' 43), (tq a' 44), (tq a' 45), (tq a' 46), (tq a' 47), (ua 48), (ua 49), (ua 50), (ua 51), (ua 52), (ua 53), (ua 54), (ua 55), (ua 56), (ua 57), (ua 58), (ua 59), (ua 60), (ua 61), (ua 62), (ua 63), (ua 64), (ua 65), (ua 66), (ua 67), (ua 68), (ua 69), (ua 70)], []⟩ ∧ Own w [] [] [.blk b2 (.cells (enc ((l.drop (a25 * 2)).take 2)).toArray 36 (0, 0)), .blk b1 (.cells (enc l).toArray 37 (0, 0))] w' ∧ (keptB l many most locs mach) = keptB_b l many mach a25 ra b29) ?_ ?_
   ·
    refine wsr ?_
    refine wmv (iv (a25 : Int)) ?_; simp only [N]
    refine wmv (iv many) ?_; simp only [N]
    refine wr (rp_int_geq rfl (a25 : Int) many rfl rfl) ?_; simp only [N]
    refine wmv (.bool (decide (many ≤ (a25 : Int)))) ?_; simp only [N]
    refine wl_g (wn_t rfl rfl) (v := .agg (enc ((l.drop (a25 * 2)).take 2)).toArray) (fun hg => rp_loadWA H 0 rfl rfl rfl Tryz.underlying36 rfl sz36 rfl) ?_; simp only [N]
    refine wl_g (wn_t rfl rfl) (v := .agg (enc (List.replicate 2 (0 : UInt8))).toArray) (fun hg => rp_build rfl (vs := []) rfl (cs := (enc (List.replicate 2 (0 : UInt8))).toArray) (by kernel_rfl)) ?_; simp only [N]
    refine wl_g (wn_t rfl rfl) (v := .bool (!(decide (((l.drop (a25 * 2)).take 2) = (List.replicate 2 (0 : UInt8)))))) (fun hg => by have x13 : many ≤ (a25 : Int) := (by simpa using hg); exact (by simp only [gv_t hg]; exact rp_neq_leafs rfl 6 (by decide) (by kernel_rfl) (by kernel_rfl) (ks := (List.replicate 2 (.int .u8))) (by kernel_rfl) (xs := enc ((l.drop (a25 * 2)).take 2)) (ys := enc (List.replicate 2 (0 : UInt8))) rfl rfl (formed_enc Tryz.underlying36 rfl sz36 (by first | omega | simp [-List.reduceReplicate] <;> omega | simp [*, -List.reduceReplicate] <;> omega)) (formed_enc Tryz.underlying36 rfl sz36 (by first | omega | simp [-List.reduceReplicate] <;> omega | simp [*, -List.reduceReplicate] <;> omega)) (fits_enc (by first | omega | simp [-List.reduceReplicate] <;> omega | simp [*, -List.reduceReplicate] <;> omega)) (fits_enc (by first | omega | simp [-List.reduceReplicate] <;> omega | simp [*, -List.reduceReplicate] <;> omega)) (r := (decide (((l.drop (a25 * 2)).take 2) = (List.replicate 2 (0 : UInt8))))) (by exact enc_iff _ _))) ?_; simp only [N]
    refine wr (rp_pickA rfl (p := (decide (many ≤ (a25 : Int)))) (q := (!(decide (((l.drop (a25 * 2)).take 2) = (List.replicate 2 (0 : UInt8)))))) rfl rfl rfl) ?_; simp only [N]
    refine wasg (.bool ((decide (many ≤ (a25 : Int))) && (!(decide (((l.drop (a25 * 2)).take 2) = (List.replicate 2 (0 : UInt8))))))) ?_; simp only [N]
    refine wpList_nil ?_
    refine wp_cond_split rfl (fun hc3 => ?_) (fun hc3 => ?_)
    · --T 3
     have hc3N14 : many ≤ (a25 : Int) := (by simpa using (andl hc3))
     refine wp_skip ?_
     exact ⟨((decide (many ≤ (a25 : Int))) && (!(decide (((l.drop (a25 * 2)).take 2) = (List.replicate 2 (0 : UInt8)))))), (by kernel_rfl), H, hFa2.trans (bt hc3)⟩
    · --F 3
     refine wp_region_lit ?_; refine wmv (iv (a25 : Int)) ?_; simp only [N]
     refine wmv (iv many) ?_; simp only [N]
     refine wr (rp_int_lss rfl (a25 : Int) many rfl rfl) ?_; simp only [N]
     refine wmv (.bool (decide ((a25 : Int) < many))) ?_; simp only [N]
     refine wl_g (wn_t rfl rfl) (v := .pointer (some ⟨b2, 0, none⟩)) (fun hg => rp_fieldAddr rfl Tryz.underlying36 rfl 0 rfl sz5 rfl 0 rfl) ?_; simp only [N]
     refine wl_g (wn_t rfl rfl) (v := bv (((l.drop (a25 * 2)).take 2).getD 0 0)) (fun hg => by have x16 : (a25 : Int) < many := (by simpa using hg); exact (by simp only [gv_t hg]; exact rp_load1A H 0 rfl rfl rfl Tryz.underlying5 rfl 0 rfl)) ?_; simp only [N]
     refine wl_g (wn_t rfl rfl) (v := iv ((((l.drop (a25 * 2)).take 2).getD 0 0).toNat : Int)) (fun hg => by have x17 : (a25 : Int) < many := (by simpa using hg); exact (by simp only [gv_t hg]; exact rp_u8_to_int rfl Tryz.underlying5 Tryz.underlying3 (((l.drop (a25 * 2)).take 2).getD 0 0) rfl)) ?_; simp only [N]
     refine wl_g (wn_t rfl rfl) (v := iv locs) (fun hg => rp_move rfl (v := iv locs) rfl) ?_; simp only [N]
     refine wl_g (wn_t rfl rfl) (v := .bool (decide (locs ≤ ((((l.drop (a25 * 2)).take 2).getD 0 0).toNat : Int)))) (fun hg => by have x19 : (a25 : Int) < many := (by simpa using hg); exact (by simp only [gv_t hg]; exact rp_int_geq rfl ((((l.drop (a25 * 2)).take 2).getD 0 0).toNat : Int) locs rfl rfl)) ?_; simp only [N]
     refine wr (rp_pickA rfl (p := (decide ((a25 : Int) < many))) (q := (decide (locs ≤ ((((l.drop (a25 * 2)).take 2).getD 0 0).toNat : Int)))) rfl rfl rfl) ?_; simp only [N]
     refine wasg (.bool ((decide ((a25 : Int) < many)) && (decide (locs ≤ ((((l.drop (a25 * 2)).take 2).getD 0 0).toNat : Int))))) ?_; simp only [N]
     refine wpList_nil ?_
     exact ⟨((decide ((a25 : Int) < many)) && (decide (locs ≤ ((((l.drop (a25 * 2)).take 2).getD 0 0).toNat : Int)))), (by kernel_rfl), H, hFa2.trans (bf hc3)⟩
   clear H
   rintro a_ w5 ⟨b29, ha_, H, hFb⟩
   obtain ⟨ub, hu_⟩ : ∃ u : Nat → Value, ∀ n, tq a_ n = u n := ⟨_, fun _ => rfl⟩
   try simp only [hu_] at ha_
   clear hu_; subst ha_
   refine wp_cond_split rfl (fun hc4 => ?_) (fun hc4 => ?_)
   · --T 4
    refine wsr ?_
    refine wasg (.bool false) ?_; simp only [N]
    refine wpList_nil ?_
    refine wp_ret ?_
    try simp only [Exit.inBlock, Exit.then, cutP]
    refine bodyPost_ret (results1 rfl (rv_tmp rfl)) rfl ?_
    have hF : (keptB l many most locs mach) = false := hFb.trans (bt hc4)
    rw [hF]
    exact ⟨rfl, H.ext⟩
   · --F 4
    refine wp_seq ?_; refine wp_region_own H (by kernel_rfl) (by kernel_rfl) ?_
    refine wq_run rfl (fun w H => rp_move rfl (v := bv mach) rfl) ?_; simp only [N]
    refine wq_run rfl (fun w H => rp_u8_eql rfl mach (3 : UInt8) rfl rfl) ?_; simp only [N]
    refine wq_run rfl (fun w H => rp_move rfl (v := .bool (mach == (3 : UInt8))) rfl) ?_; simp only [N]
    refine wq_g (wn_t rfl rfl) (v := iv (a25 : Int)) (fun hg w H => rp_move rfl (v := iv (a25 : Int)) rfl) ?_; simp only [N]
    refine wq_g (wn_t rfl rfl) (v := .bool (decide ((0 : Int) < (a25 : Int)))) (fun hg w H => by have x21 : mach.toNat = 3 := u8_eq hg; exact (by simp only [gv_t hg]; exact rp_int_gtr rfl (a25 : Int) (0 : Int) rfl rfl)) ?_; simp only [N]
    refine wq_run rfl (fun w H => rp_pickA rfl (p := (mach == (3 : UInt8))) (q := (decide ((0 : Int) < (a25 : Int)))) rfl rfl rfl) ?_; simp only [N]
    refine wq_run rfl (fun w H => rp_move rfl (v := .bool ((mach == (3 : UInt8)) && (decide ((0 : Int) < (a25 : Int))))) rfl) ?_; simp only [N]
    refine wq_g (wn_t rfl rfl) (v := iv (a25 : Int)) (fun hg w H => rp_move rfl (v := iv (a25 : Int)) rfl) ?_; simp only [N]
    refine wq_g (wn_t rfl rfl) (v := iv many) (fun hg w H => rp_move rfl (v := iv many) rfl) ?_; simp only [N]
    refine wq_g (wn_t rfl rfl) (v := .bool (decide ((a25 : Int) < many))) (fun hg w H => by have x26 : mach.toNat = 3 := u8_eq (andl hg); have x27 : (0 : Int) < (a25 : Int) := (by simpa using (andr hg)); exact (by simp only [gv_t hg]; exact rp_int_lss rfl (a25 : Int) many rfl rfl)) ?_; simp only [N]
    refine wq_run rfl (fun w H => rp_pickA rfl (p := ((mach == (3 : UInt8)) && (decide ((0 : Int) < (a25 : Int))))) (q := (decide ((a25 : Int) < many))) rfl rfl rfl) ?_; simp only [N]
    refine wq_run rfl (fun w H => rp_move rfl (v := .bool (((mach == (3 : UInt8)) && (decide ((0 : Int) < (a25 : Int)))) && (decide ((a25 : Int) < many)))) rfl) ?_; simp only [N]
    refine wq_g (wn_t rfl rfl) (v := iv (a25 : Int)) (fun hg w H => rp_move rfl (v := iv (a25 : Int)) rfl) ?_; simp only [N]
    refine wq_g (wn_t rfl rfl) (v := iv ((a25 : Int) - (1 : Int))) (fun hg w H => by have x31 : mach.toNat = 3 := u8_eq (andl (andl hg)); have x32 : (0 : Int) < (a25 : Int) := (by simpa using (andr (andl hg))); have x33 : (a25 : Int) < many := (by simpa using (andr hg)); exact (by simp only [gv_t hg]; exact rp_int_sub rfl (a25 : Int) (1 : Int) rfl rfl (by omega))) ?_; simp only [N]
    refine wq_g (wn_t rfl rfl) (v := .pointer (some ⟨b1, ((a25 : Int) - (1 : Int)).toNat * 2, none⟩)) (fun hg w H => by have x34 : mach.toNat = 3 := u8_eq (andl (andl hg)); have x35 : (0 : Int) < (a25 : Int) := (by simpa using (andr (andl hg))); have x36 : (a25 : Int) < many := (by simpa using (andr hg)); exact (by simp only [gv_t hg]; exact rp_indexAddr_arrI rfl Tryz.underlying37 sz36 rfl ((a25 : Int) - (1 : Int)) (by omega) rfl (by omega) (((a25 : Int) - (1 : Int)).toNat * 2) (by omega))) ?_; simp only [N]
    refine wq_g (wn_t rfl rfl) (v := .pointer (some ⟨b1, ((a25 : Int) - (1 : Int)).toNat * 2, none⟩)) (fun hg w H => by have x37 : mach.toNat = 3 := u8_eq (andl (andl hg)); have x38 : (0 : Int) < (a25 : Int) := (by simpa using (andr (andl hg))); have x39 : (a25 : Int) < many := (by simpa using (andr hg)); exact (by simp only [gv_t hg]; exact rp_fieldAddr rfl Tryz.underlying36 rfl 0 rfl sz5 rfl (((a25 : Int) - (1 : Int)).toNat * 2) (by omega))) ?_; simp only [N]
    refine wq_g (wn_t rfl rfl) (v := bv (l.getD (((a25 : Int) - (1 : Int)).toNat * 2) 0)) (fun hg w H => by have x40 : mach.toNat = 3 := u8_eq (andl (andl hg)); have x41 : (0 : Int) < (a25 : Int) := (by simpa using (andr (andl hg))); have x42 : (a25 : Int) < many := (by simpa using (andr hg)); exact (by simp only [gv_t hg]; exact rp_load1A H 1 rfl rfl rfl Tryz.underlying5 rfl (((a25 : Int) - (1 : Int)).toNat * 2) rfl)) ?_; simp only [N]
    refine wq_g (wn_t rfl rfl) (v := .pointer (some ⟨b2, 0, none⟩)) (fun hg w H => rp_fieldAddr rfl Tryz.underlying36 rfl 0 rfl sz5 rfl 0 rfl) ?_; simp only [N]
    refine wq_g (wn_t rfl rfl) (v := bv (((l.drop (a25 * 2)).take 2).getD 0 0)) (fun hg w H => by have x46 : mach.toNat = 3 := u8_eq (andl (andl hg)); have x47 : (0 : Int) < (a25 : Int) := (by simpa using (andr (andl hg))); have x48 : (a25 : Int) < many := (by simpa using (andr hg)); exact (by simp only [gv_t hg]; exact rp_load1A H 0 rfl rfl rfl Tryz.underlying5 rfl 0 rfl)) ?_; simp only [N]
    refine wq_g (wn_t rfl rfl) (v := .bool (decide ((((l.drop (a25 * 2)).take 2).getD 0 0) < (l.getD (((a25 : Int) - (1 : Int)).toNat * 2) 0)))) (fun hg w H => by have x49 : mach.toNat = 3 := u8_eq (andl (andl hg)); have x50 : (0 : Int) < (a25 : Int) := (by simpa using (andr (andl hg))); have x51 : (a25 : Int) < many := (by simpa using (andr hg)); exact (by simp only [gv_t hg]; exact rp_u8_gtr rfl (l.getD (((a25 : Int) - (1 : Int)).toNat * 2) 0) (((l.drop (a25 * 2)).take 2).getD 0 0) rfl rfl)) ?_; simp only [N]
    refine wq_run rfl (fun w H => rp_pickA rfl (p := (((mach == (3 : UInt8)) && (decide ((0 : Int) < (a25 : Int)))) && (decide ((a25 : Int) < many)))) (q := (decide ((((l.drop (a25 * 2)).take 2).getD 0 0) < (l.getD (((a25 : Int) - (1 : Int)).toNat * 2) 0)))) rfl rfl rfl) ?_; simp only [N]
    refine wq_run rfl (fun w H => rp_assign rfl (v := .bool ((((mach == (3 : UInt8)) && (decide ((0 : Int) < (a25 : Int)))) && (decide ((a25 : Int) < many))) && (decide ((((l.drop (a25 * 2)).take 2).getD 0 0) < (l.getD (((a25 : Int) - (1 : Int)).toNat * 2) 0))))) rfl) ?_; simp only [N]
    refine wq_nil ?_
    clear H; intro w6 H
    refine wp_cond_split rfl (fun hc5 => ?_) (fun hc5 => ?_)
    · --T 5
     have hc5N52 : mach.toNat = 3 := u8_eq (andl (andl (andl hc5)))
     have hc5N53 : (0 : Int) < (a25 : Int) := (by simpa using (andr (andl (andl hc5))))
     have hc5N54 : (a25 : Int) < many := (by simpa using (andr (andl hc5)))
     have hc5N55 : (((l.drop (a25 * 2)).take 2).getD 0 0).toNat < (l.getD (((a25 : Int) - (1 : Int)).toNat * 2) 0).toNat := u8_lt (andr hc5)
     refine wsr ?_
     refine wasg (.bool false) ?_; simp only [N]
     refine wpList_nil ?_
     refine wp_ret ?_
     try simp only [Exit.inBlock, Exit.then, cutP]
     refine bodyPost_ret (results1 rfl (rv_tmp rfl)) rfl ?_
     have hF : (keptB l many most locs mach) = false := hFb.trans ((bf hc4).trans (bt hc5))
     rw [hF]
     exact ⟨rfl, H.ext⟩
    · --F 5
     refine wp_skip ?_
     refine wp_region_lit ?_; refine wr (rp_int_add rfl (a25 : Int) (1 : Int) rfl rfl (by omega)) ?_; simp only [N]
     refine wmv (iv ((a25 : Int) + (1 : Int))) ?_; simp only [N]
     refine wpList_nil ?_
     replace H := H.dropNew 0 rfl (foot_blk hnb2); simp only [m5, m6] at H
     show ∃ n', n' < _ ∧ _
     refine ⟨_, ?_, (a25 + 1), (by kernel_rfl), H, (by omega), (hFb.trans ((bf hc4).trans (bf hc5))).trans (congrFun hra _), rfl⟩
     omega
  · --F 2
   have hc2N56 : (12 : Int) ≤ (a25 : Int) := (by simpa using hc2)
   have hFa2 := hFa.trans (loopN_end (show 12 ≤ a25 by omega))
   refine wp_exit ?_
   refine wsr ?_
   refine wasg (.bool true) ?_; simp only [N]
   refine wpList_nil ?_
   refine wp_ret ?_
   try simp only [Exit.inBlock, Exit.then, cutP]
   refine bodyPost_ret (results1 rfl (rv_tmp rfl)) rfl ?_
   have hF : (keptB l many most locs mach) = true := hFa2
   rw [hF]
   exact ⟨rfl, H.ext⟩

def bRightF_v46 (a26 : Nat) (ra : Nat → Bool) (v46 : Bool) : Bool :=
  bif (!v46) then false else (ra (a26 + 1))
def bRightF_a (p : Prog) (mach : UInt8) (s : List UInt8) (ra : Nat → Bool) : Nat → Bool := fun s_ => match s_ with | a26 => bRightF_v46 a26 ra (keptB ((((s.drop 42).take 96).drop (a26 * 24)).take 24) ((s.getD (138 + a26) 0).toNat : Int) ((s.getD (a26 * 9) 0).toNat : Int) (p.locs.l.length : Int) mach)
def bRightF_ak : Nat → Bool := fun s_ => match s_ with | a26 => true
def bRightF (p : Prog) (mach : UInt8) (s : List UInt8) : Bool :=
  bif ((!(knownF mach)) || (!(aRightF p ((s.take 42 ++ (List.replicate 96 (0 : UInt8)) ++ s.drop (42 + (List.replicate 96 (0 : UInt8)).length)).take 138 ++ (List.replicate 4 (0 : UInt8)) ++ (s.take 42 ++ (List.replicate 96 (0 : UInt8)) ++ s.drop (42 + (List.replicate 96 (0 : UInt8)).length)).drop (138 + (List.replicate 4 (0 : UInt8)).length))))) then false else (loopN (bRightF_a p mach s) bRightF_ak (4 - 0) 0)


theorem bRightF_spec (p : Prog) (mach : UInt8) (s : List UInt8) (hs : s.length = 142) (w : World) (hp : (IsProg p) w) (hg_ : Glob w) :
    Calls Tryz.prog 22 #[.agg p.cells.toArray, bv mach, .agg (enc s).toArray] w fun e w' => e = .returned (.bool (bRightF p mach s)) ∧ Ext w w' := by
 have H := Own.start_ro w [IsProg p, Glob] (List.forall_mem_cons.2 ⟨fun w' hw => hp.keep hw, List.forall_mem_cons.2 ⟨fun w' hw => hg_.keep hw, fun _ h => by cases h⟩⟩)
 have hcp1 := hp.locs.2.2
 have hcp2 := hp.init.2.2
 have hcp3 := hp.threads.2.2
 go_enter Tryz.func22, Tryz.ntmps22
 refine wsr ?_
 refine wl_box H rfl rfl (v := .agg (p.cells).toArray) rfl ?_
 clear H; intro b1 w1 hnb1 H; dsimp only [Value.cells] at H
 simp only [N]
 refine wl_box H rfl rfl (v := .agg (enc s).toArray) rfl ?_
 clear H; intro b2 w2 hnb2 H; dsimp only [Value.cells] at H
 simp only [N]
 refine wasg (.bool false) ?_; simp only [N]
 refine wnr ?_
 refine wr (rp_loadWA H 0 rfl rfl rfl Tryz.underlying41 rfl sz41 rfl) ?_; simp only [N]
 refine wl_alloc H rfl rfl zv41 ?_
 clear H; intro b3 w3 hnb3 H; dsimp only [Value.cells] at H
 simp only [N]
 simp only [enc_replicate] at H
 refine wl_storeA H 0 rfl rfl rfl rfl s rfl sz41 ?_
 clear H; intro w4 H; simp only [M] at H
 simp only [N]
 refine wnr ?_
 refine wr (rp_build rfl (vs := []) rfl (cs := (enc (List.replicate 96 (0 : UInt8))).toArray) (by kernel_rfl)) ?_; simp only [N]
 refine wr (rp_build rfl (vs := []) rfl (cs := (enc (List.replicate 4 (0 : UInt8))).toArray) (by kernel_rfl)) ?_; simp only [N]
 refine wr (rp_fieldAddr rfl Tryz.underlying41 rfl 42 rfl sz38 rfl 42 rfl) ?_; simp only [N]
 refine wl_storeNA H 0 rfl rfl rfl rfl (List.replicate 96 (0 : UInt8)) rfl sz38 42 rfl ?_
 clear H; intro w5 H; simp only [M] at H
 simp only [N]
 refine wr (rp_fieldAddr rfl Tryz.underlying41 rfl 138 rfl sz39 rfl 138 rfl) ?_; simp only [N]
 refine wl_storeNA H 0 rfl rfl rfl rfl (List.replicate 4 (0 : UInt8)) rfl sz39 138 rfl ?_
 clear H; intro w6 H; simp only [M] at H
 simp only [N]
 refine wpList_nil ?_
 refine wp_seq ?_; refine wsr ?_
 refine wmv (bv mach) ?_; simp only [N]
 refine wl_callE H rfl (rc_go Tryz.func40 (by kernel_rfl) rfl) (knownF_spec mach _ ) ?_
 clear H; intro w7 H
 simp only [N]
 refine wr (rp_not rfl (knownF mach) rfl) ?_; simp only [N]
 refine wmv (.bool (!(knownF mach))) ?_; simp only [N]
 refine wl_g (wn_f rfl rfl) (v := .agg (p.cells).toArray) (fun hg => rp_loadN H 2 rfl rfl rfl Tryz.underlying29 rfl sz29 (Nat.le_of_ble_eq_true rfl) (cs' := p.cells) rfl) ?_; simp only [N]
 refine wl_g (wn_f rfl rfl) (v := .agg (enc ((s.take 42 ++ (List.replicate 96 (0 : UInt8)) ++ s.drop (42 + (List.replicate 96 (0 : UInt8)).length)).take 138 ++ (List.replicate 4 (0 : UInt8)) ++ (s.take 42 ++ (List.replicate 96 (0 : UInt8)) ++ s.drop (42 + (List.replicate 96 (0 : UInt8)).length)).drop (138 + (List.replicate 4 (0 : UInt8)).length))).toArray) (fun hg => rp_loadWA H 0 rfl rfl rfl Tryz.underlying41 rfl sz41 rfl) ?_; simp only [N]
 refine wl_gE H (wn_f rfl rfl) (fun hg => fun w => by simp only [gv_t hg]; exact rc_go Tryz.func41 (by kernel_rfl) rfl w) (v := .bool (aRightF p ((s.take 42 ++ (List.replicate 96 (0 : UInt8)) ++ s.drop (42 + (List.replicate 96 (0 : UInt8)).length)).take 138 ++ (List.replicate 4 (0 : UInt8)) ++ (s.take 42 ++ (List.replicate 96 (0 : UInt8)) ++ s.drop (42 + (List.replicate 96 (0 : UInt8)).length)).drop (138 + (List.replicate 4 (0 : UInt8)).length)))) (fun hg => aRightF_spec p ((s.take 42 ++ (List.replicate 96 (0 : UInt8)) ++ s.drop (42 + (List.replicate 96 (0 : UInt8)).length)).take 138 ++ (List.replicate 4 (0 : UInt8)) ++ (s.take 42 ++ (List.replicate 96 (0 : UInt8)) ++ s.drop (42 + (List.replicate 96 (0 : UInt8)).length)).drop (138 + (List.replicate 4 (0 : UInt8)).length)) (by first | omega | simp [-List.reduceReplicate] <;> omega | simp [*, -List.reduceReplicate] <;> omega) _ (H.ro_at 0 rfl) (H.ro_at 1 rfl)) ?_
 clear H; intro w8 H
 simp only [N]
 refine wl_g (wn_f rfl rfl) (v := .bool (!(aRightF p ((s.take 42 ++ (List.replicate 96 (0 : UInt8)) ++ s.drop (42 + (List.replicate 96 (0 : UInt8)).length)).take 138 ++ (List.replicate 4 (0 : UInt8)) ++ (s.take 42 ++ (List.replicate 96 (0 : UInt8)) ++ s.drop (42 + (List.replicate 96 (0 : UInt8)).length)).drop (138 + (List.replicate 4 (0 : UInt8)).length))))) (fun hg => by simp only [gv_t hg]; exact rp_not rfl (aRightF p ((s.take 42 ++ (List.replicate 96 (0 : UInt8)) ++ s.drop (42 + (List.replicate 96 (0 : UInt8)).length)).take 138 ++ (List.replicate 4 (0 : UInt8)) ++ (s.take 42 ++ (List.replicate 96 (0 : UInt8)) ++ s.drop (42 + (List.replicate 96 (0 : UInt8)).length)).drop (138 + (List.replicate 4 (0 : UInt8)).length))) rfl) ?_; simp only [N]
 refine wr (rp_pickO rfl (p := (!(knownF mach))) (q := (!(aRightF p ((s.take 42 ++ (List.replicate 96 (0 : UInt8)) ++ s.drop (42 + (List.replicate 96 (0 : UInt8)).length)).take 138 ++ (List.replicate 4 (0 : UInt8)) ++ (s.take 42 ++ (List.replicate 96 (0 : UInt8)) ++ s.drop (42 + (List.replicate 96 (0 : UInt8)).length)).drop (138 + (List.replicate 4 (0 : UInt8)).length))))) rfl rfl rfl) ?_; simp only [N]
 refine wpList_nil ?_
 refine wp_cond_split rfl (fun hc1 => ?_) (fun hc1 => ?_)
 · --T 1
  refine wsr ?_
  refine wasg (.bool false) ?_; simp only [N]
  refine wpList_nil ?_
  refine wp_ret ?_
  try simp only [Exit.inBlock, Exit.then, cutP]
  refine bodyPost_ret (results1 rfl (rv_tmp rfl)) rfl ?_
  have hF : (bRightF p mach s) = false := bt hc1
  rw [hF]
  exact ⟨rfl, H.ext⟩
 · --F 1
  refine wp_skip ?_
  refine wp_seq ?_; refine wsr ?_
  refine wr (rp_fieldAddr rfl Tryz.underlying41 rfl 42 rfl sz38 rfl 42 rfl) ?_; simp only [N]
  refine wr (rp_loadNA H 1 rfl rfl rfl Tryz.underlying38 rfl sz38 42) ?_; simp only [N]
  refine wmv (iv (0 : Int)) ?_; simp only [N]
  refine wpList_nil ?_
  refine wp_block ?_
  refine wp_loopX (fun m' a' w' => ∃ (a26 : Nat), a' = ⟨#[(tq a' 0), bv mach, (tq a' 2), .pointer (some ⟨b1, 0, none⟩), uU, .pointer (some ⟨b2, 0, none⟩), (tq a' 6), (tq a' 7), (tq a' 8), (tq a' 9), (tq a' 10), (tq a' 11), (tq a' 12), (tq a' 13), (tq a' 14), bv mach, (tq a' 16), (tq a' 17), (tq a' 18), (tq a' 19), (tq a' 20), (tq a' 21), (tq a' 22), (tq a' 23), (tq a' 24), .agg (enc ((s.drop 42).take 96)).toArray, iv (a26 : Int), (tq a' 27), (tq a' 28), (tq a' 29), (tq a' 30), (tq a' 31), (tq a' 32), (tq a' 33), (tq a' 34), (tq a' 35), (tq a' 36), (tq a' 37), (tq a' 38), (tq a' 39), (tq a' 40), (tq a' 41), (tq a' 42), (tq a' 43), (tq a' 44), (tq a' 45), (tq a' 46), (tq a' 47), (tq a' 48)], []⟩ ∧ Own w [] [IsProg p, Glob] [.blk b3 (.cells (enc ((s.take 42 ++ (List.replicate 96 (0 : UInt8)) ++ s.drop (42 + (List.replicate 96 (0 : UInt8)).length)).take 138 ++ (List.replicate 4 (0 : UInt8)) ++ (s.take 42 ++ (List.replicate 96 (0 : UInt8)) ++ s.drop (42 + (List.replicate 96 (0 : UInt8)).length)).drop (138 + (List.replicate 4 (0 : UInt8)).length))).toArray 41 (0, 0)), .blk b2 (.cells (enc s).toArray 41 (0, 0)), .blk b1 (.cells (p.cells).toArray 29 (0, 0))] w' ∧ (a26 ≤ 4) ∧ (bRightF p mach s) = loopN (bRightF_a p mach s) bRightF_ak (4 - a26) a26 ∧ m' = 4 - a26) _ ⟨0, (by kernel_rfl), H, (by omega), bf hc1, rfl⟩ ?_
  clear H
  rintro _ a_ w9 ⟨a26, ha_, H, hia0, hFa, rfl⟩
  obtain ⟨ua, hu_⟩ : ∃ u : Nat → Value, ∀ n, tq a_ n = u n := ⟨_, fun _ => rfl⟩
  try simp only [hu_] at ha_
  clear hu_; subst ha_
  refine wsr ?_
  refine wr (rp_int_lss rfl (a26 : Int) (4 : Int) rfl rfl) ?_; simp only [N]
  refine wpList_nil ?_
  refine wp_seq ?_; refine wp_cond_split rfl (fun hc2 => ?_) (fun hc2 => ?_)
  · --T 2
   have hc2N1 : (a26 : Int) < (4 : Int) := (by simpa using hc2)
   obtain ⟨ra, hra⟩ : ∃ r, r = loopN (bRightF_a p mach s) bRightF_ak (4 - (a26 + 1)) := ⟨_, rfl⟩
   have hFa2 := hFa.trans (loopN_step (show a26 < 4 by omega))
   rw [← hra] at hFa2
   refine wp_skip ?_
   refine wp_seq ?_; refine wp_block ?_
   refine wsr ?_
   refine wmv (iv (a26 : Int)) ?_; simp only [N]
   refine wr (rp_index_encN rfl Tryz.underlying38 sz37 Tryz.underlying37 rfl rfl a26 rfl (by omega)) ?_; simp only [N]
   refine wl_alloc H rfl rfl zv37 ?_
   clear H; intro b4 w10 hnb4 H; dsimp only [Value.cells] at H
   simp only [N]
   simp only [enc_replicate] at H
   refine wasg (iv (a26 : Int)) ?_; simp only [N]
   refine wl_storeA H 0 rfl rfl rfl rfl ((((s.drop 42).take 96).drop (a26 * 24)).take 24) rfl sz37 ?_
   clear H; intro w11 H; simp only [M] at H
   simp only [N]
   refine wpList_nil ?_
   refine wp_seq ?_; refine wp_region_own H (by kernel_rfl) (by kernel_rfl) ?_
   refine wq_run rfl (fun w H => rp_loadWA H 0 rfl rfl rfl Tryz.underlying37 rfl sz37 rfl) ?_; simp only [N]
   refine wq_run rfl (fun w H => rp_move rfl (v := iv (a26 : Int)) rfl) ?_; simp only [N]
   refine wq_run rfl (fun w H => rp_fieldAddr rfl Tryz.underlying41 rfl 138 rfl sz39 rfl 138 rfl) ?_; simp only [N]
   refine wq_run rfl (fun w H => rp_indexAddr_arr rfl Tryz.underlying39 sz5 rfl a26 rfl (by omega) (138 + a26) (by omega)) ?_; simp only [N]
   refine wq_run rfl (fun w H => rp_load1A H 2 rfl rfl rfl Tryz.underlying5 rfl (138 + a26) rfl) ?_; simp only [N]
   refine wq_run rfl (fun w H => rp_u8_to_int rfl Tryz.underlying5 Tryz.underlying3 (s.getD (138 + a26) 0) rfl) ?_; simp only [N]
   refine wq_run rfl (fun w H => rp_move rfl (v := iv (a26 : Int)) rfl) ?_; simp only [N]
   refine wq_run rfl (fun w H => rp_fieldAddr rfl Tryz.underlying41 rfl 0 rfl sz33 rfl 0 rfl) ?_; simp only [N]
   refine wq_run rfl (fun w H => rp_indexAddr_arr rfl Tryz.underlying33 sz32 rfl a26 rfl (by omega) (a26 * 9) (by omega)) ?_; simp only [N]
   refine wq_run rfl (fun w H => rp_fieldAddr rfl Tryz.underlying32 rfl 0 rfl sz5 rfl (a26 * 9) (by omega)) ?_; simp only [N]
   refine wq_run rfl (fun w H => rp_load1A H 2 rfl rfl rfl Tryz.underlying5 rfl (a26 * 9) rfl) ?_; simp only [N]
   refine wq_run rfl (fun w H => rp_u8_to_int rfl Tryz.underlying5 Tryz.underlying3 (s.getD (a26 * 9) 0) rfl) ?_; simp only [N]
   refine wq_run rfl (fun w H => rp_fieldAddr rfl Tryz.underlying29 rfl 1 rfl sz22 rfl 1 rfl) ?_; simp only [N]
   refine wq_run rfl (fun w H => rp_load1 H 3 rfl rfl rfl Tryz.underlying22 rfl (v := p.locs.val) rfl) ?_; simp only [N]
   refine wq_run rfl (fun w H => rp_len_sl (s := p.locs) Tryz.underlying22 rfl) ?_; simp only [N]
   refine wq_run rfl (fun w H => rp_move rfl (v := bv mach) rfl) ?_; simp only [N]
   refine wq_call rfl (rc_go Tryz.func42 (by kernel_rfl) rfl) (fun w H => keptB_spec ((((s.drop 42).take 96).drop (a26 * 24)).take 24) ((s.getD (138 + a26) 0).toNat : Int) ((s.getD (a26 * 9) 0).toNat : Int) (p.locs.l.length : Int) mach (by first | omega | simp [-List.reduceReplicate] <;> omega | simp [*, -List.reduceReplicate] <;> omega) _ ) ?_; simp only [N]
   generalize hv46 : (keptB ((((s.drop 42).take 96).drop (a26 * 24)).take 24) ((s.getD (138 + a26) 0).toNat : Int) ((s.getD (a26 * 9) 0).toNat : Int) (p.locs.l.length : Int) mach) = v46
   have hFv46 : (bRightF p mach s) = bRightF_v46 a26 ra v46 := by first | (rw [← hv46]; exact hFa2) | exact hFa2
   refine wq_run rfl (fun w H => rp_not rfl v46 rfl) ?_; simp only [N]
   refine wq_nil ?_
   clear H; intro w12 H
   refine wp_cond_split rfl (fun hc3 => ?_) (fun hc3 => ?_)
   · --T 3
    refine wsr ?_
    refine wasg (.bool false) ?_; simp only [N]
    refine wpList_nil ?_
    refine wp_ret ?_
    try simp only [Exit.inBlock, Exit.then, cutP]
    refine bodyPost_ret (results1 rfl (rv_tmp rfl)) rfl ?_
    have hF : (bRightF p mach s) = false := hFv46.trans (bt hc3)
    rw [hF]
    exact ⟨rfl, H.ext⟩
   · --F 3
    refine wp_skip ?_
    refine wp_region_lit ?_; refine wr (rp_int_add rfl (a26 : Int) (1 : Int) rfl rfl (by omega)) ?_; simp only [N]
    refine wmv (iv ((a26 : Int) + (1 : Int))) ?_; simp only [N]
    refine wpList_nil ?_
    replace H := H.dropNew 0 rfl (foot_blk hnb4); simp only [m5, m6] at H
    show ∃ n', n' < _ ∧ _
    refine ⟨_, ?_, (a26 + 1), (by kernel_rfl), H, (by omega), (hFv46.trans (bf hc3)).trans (congrFun hra _), rfl⟩
    omega
  · --F 2
   have hc2N2 : (4 : Int) ≤ (a26 : Int) := (by simpa using hc2)
   have hFa2 := hFa.trans (loopN_end (show 4 ≤ a26 by omega))
   refine wp_exit ?_
   refine wsr ?_
   refine wasg (.bool true) ?_; simp only [N]
   refine wpList_nil ?_
   refine wp_ret ?_
   try simp only [Exit.inBlock, Exit.then, cutP]
   refine bodyPost_ret (results1 rfl (rv_tmp rfl)) rfl ?_
   have hF : (bRightF p mach s) = true := hFa2
   rw [hF]
   exact ⟨rfl, H.ext⟩

def seenF_a (s : List UInt8) (t : Int) (loc : UInt8) (ra : (UInt8 × Nat) → UInt8) : (UInt8 × Nat) → UInt8 := fun s_ => match s_ with | (a7, a34) => bif ((((s.drop (42 + t.toNat * 24 + a34 * 2)).take 2).getD 0 0) == loc) then (ra ((((s.drop (42 + t.toNat * 24 + a34 * 2)).take 2).getD 1 0), (a34 + 1))) else (ra (a7, (a34 + 1)))
def seenF_ak : (UInt8 × Nat) → UInt8 := fun s_ => match s_ with | (a7, a34) => a7
def seenF (s : List UInt8) (t : Int) (loc : UInt8) : UInt8 :=
  bif (((decide (t < (0 : Int))) || (decide ((4 : Int) ≤ t))) || (decide ((6 : UInt8) ≤ loc))) then (0 : UInt8) else (loopN (seenF_a s t loc) seenF_ak (((if (12 : UInt8) < (s.getD (138 + t.toNat) 0) then (12 : UInt8) else (s.getD (138 + t.toNat) 0)).toNat) - 0) ((s.getD (36 + loc.toNat) 0), 0))


theorem seenF_spec (s : List UInt8) (t : Int) (loc : UInt8) (hs : s.length = 142) (w : World) :
    Calls Tryz.prog 15 #[.agg (enc s).toArray, iv t, bv loc] w fun e w' => e = .returned (bv (seenF s t loc)) ∧ Ext w w' := by
 have H := Own.start w
 have hmin := umin_le (s.getD (138 + t.toNat) 0)
 go_enter Tryz.func15, Tryz.ntmps15
 refine wsr ?_
 refine wl_box H rfl rfl (v := .agg (enc s).toArray) rfl ?_
 clear H; intro b1 w1 hnb1 H; dsimp only [Value.cells] at H
 simp only [N]
 refine wasg (bv (0 : UInt8)) ?_; simp only [N]
 refine wpList_nil ?_
 refine wp_seq ?_; refine wsr ?_
 refine wmv (iv t) ?_; simp only [N]
 refine wr (rp_int_lss rfl t (0 : Int) rfl rfl) ?_; simp only [N]
 refine wmv (.bool (decide (t < (0 : Int)))) ?_; simp only [N]
 refine wl_g (wn_f rfl rfl) (v := iv t) (fun hg => rp_move rfl (v := iv t) rfl) ?_; simp only [N]
 refine wl_g (wn_f rfl rfl) (v := .bool (decide ((4 : Int) ≤ t))) (fun hg => by have x2 : (0 : Int) ≤ t := (by simpa using (notT hg)); exact (by simp only [gv_t hg]; exact rp_int_geq rfl t (4 : Int) rfl rfl)) ?_; simp only [N]
 refine wr (rp_pickO rfl (p := (decide (t < (0 : Int)))) (q := (decide ((4 : Int) ≤ t))) rfl rfl rfl) ?_; simp only [N]
 refine wmv (.bool ((decide (t < (0 : Int))) || (decide ((4 : Int) ≤ t)))) ?_; simp only [N]
 refine wl_g (wn_f rfl rfl) (v := bv loc) (fun hg => rp_move rfl (v := bv loc) rfl) ?_; simp only [N]
 refine wl_g (wn_f rfl rfl) (v := .bool (decide ((6 : UInt8) ≤ loc))) (fun hg => by have x5 : (0 : Int) ≤ t := (by simpa using (orl (notT hg))); have x6 : t < (4 : Int) := (by simpa using (orr (notT hg))); exact (by simp only [gv_t hg]; exact rp_u8_geq rfl loc (6 : UInt8) rfl rfl)) ?_; simp only [N]
 refine wr (rp_pickO rfl (p := ((decide (t < (0 : Int))) || (decide ((4 : Int) ≤ t)))) (q := (decide ((6 : UInt8) ≤ loc))) rfl rfl rfl) ?_; simp only [N]
 refine wpList_nil ?_
 refine wp_cond_split rfl (fun hc1 => ?_) (fun hc1 => ?_)
 · --T 1
  refine wsr ?_
  refine wasg (bv (0 : UInt8)) ?_; simp only [N]
  refine wpList_nil ?_
  refine wp_ret ?_
  try simp only [Exit.inBlock, Exit.then, cutP]
  refine bodyPost_ret (results1 rfl (rv_tmp rfl)) rfl ?_
  have hF : (seenF s t loc) = (0 : UInt8) := bt hc1
  rw [hF]
  exact ⟨rfl, H.ext⟩
 · --F 1
  have hc1N7 : (0 : Int) ≤ t := (by simpa using (orl (orl hc1)))
  have hc1N8 : t < (4 : Int) := (by simpa using (orr (orl hc1)))
  have hc1N9 : loc.toNat < 6 := u8_gt (orr hc1)
  refine wp_skip ?_
  refine wsr ?_
  refine wmv (bv loc) ?_; simp only [N]
  refine wr (rp_fieldAddr rfl Tryz.underlying41 rfl 36 rfl sz34 rfl 36 rfl) ?_; simp only [N]
  refine wr (rp_indexAddr_arr rfl Tryz.underlying34 sz5 rfl loc.toNat rfl (by omega) (36 + loc.toNat) (by omega)) ?_; simp only [N]
  refine wr (rp_load1A H 0 rfl rfl rfl Tryz.underlying5 rfl (36 + loc.toNat) rfl) ?_; simp only [N]
  refine wasg (bv (s.getD (36 + loc.toNat) 0)) ?_; simp only [N]
  refine wpList_nil ?_
  refine wp_seq ?_; refine wp_seq ?_; refine wp_region_own H (by kernel_rfl) (by kernel_rfl) ?_
  refine wq_run rfl (fun w H => rp_move rfl (v := iv t) rfl) ?_; simp only [N]
  refine wq_run rfl (fun w H => rp_fieldAddr rfl Tryz.underlying41 rfl 42 rfl sz38 rfl 42 rfl) ?_; simp only [N]
  refine wq_run rfl (fun w H => rp_indexAddr_arrI rfl Tryz.underlying38 sz37 rfl t (by omega) rfl (by omega) (42 + t.toNat * 24) (by omega)) ?_; simp only [N]
  refine wq_run rfl (fun w H => rp_move rfl (v := iv t) rfl) ?_; simp only [N]
  refine wq_run rfl (fun w H => rp_fieldAddr rfl Tryz.underlying41 rfl 138 rfl sz39 rfl 138 rfl) ?_; simp only [N]
  refine wq_run rfl (fun w H => rp_indexAddr_arrI rfl Tryz.underlying39 sz5 rfl t (by omega) rfl (by omega) (138 + t.toNat) (by omega)) ?_; simp only [N]
  refine wq_run rfl (fun w H => rp_load1A H 0 rfl rfl rfl Tryz.underlying5 rfl (138 + t.toNat) rfl) ?_; simp only [N]
  refine wq_run rfl (fun w H => rp_umin2 (s.getD (138 + t.toNat) 0) (12 : UInt8) rfl rfl) ?_; simp only [N]
  refine wq_run rfl (fun w H => rp_slice_arr_hi rfl Tryz.underlying37 sz36 rfl ((if (12 : UInt8) < (s.getD (138 + t.toNat) 0) then (12 : UInt8) else (s.getD (138 + t.toNat) 0)).toNat) rfl (by omega)) ?_; simp only [N]
  refine wq_run rfl (fun w H => rp_len_slice Tryz.underlying68 rfl) ?_; simp only [N]
  refine wq_run rfl (fun w H => rp_move rfl (v := iv (0 : Int)) rfl) ?_; simp only [N]
  refine wq_nil ?_
  clear H; intro w2 H
  refine wp_block ?_
  refine wp_loopX (fun m' a' w' => ∃ (a7 : UInt8) (a34 : Nat), a' = ⟨#[(tq a' 0), iv t, bv loc, (tq a' 3), uU, uU, (tq a' 6), bv a7, uU, (tq a' 9), iv t, (tq a' 11), (tq a' 12), (tq a' 13), (tq a' 14), (tq a' 15), (tq a' 16), (tq a' 17), (tq a' 18), (tq a' 19), bv loc, (tq a' 21), (tq a' 22), (tq a' 23), iv t, (tq a' 25), (tq a' 26), iv t, (tq a' 28), (tq a' 29), (tq a' 30), (tq a' 31), .slice (some ⟨b1, 42 + t.toNat * 24, none⟩) ((if (12 : UInt8) < (s.getD (138 + t.toNat) 0) then (12 : UInt8) else (s.getD (138 + t.toNat) 0)).toNat) 12, iv ((((if (12 : UInt8) < (s.getD (138 + t.toNat) 0) then (12 : UInt8) else (s.getD (138 + t.toNat) 0)).toNat) : Nat) : Int), iv (a34 : Int), (tq a' 35), (tq a' 36), (tq a' 37), (tq a' 38), (tq a' 39), (tq a' 40), (tq a' 41), (tq a' 42), (tq a' 43), (tq a' 44), uU], []⟩ ∧ Own w [] [] [.blk b1 (.cells (enc s).toArray 41 (0, 0))] w' ∧ (a34 ≤ ((if (12 : UInt8) < (s.getD (138 + t.toNat) 0) then (12 : UInt8) else (s.getD (138 + t.toNat) 0)).toNat)) ∧ (seenF s t loc) = loopN (seenF_a s t loc) seenF_ak (((if (12 : UInt8) < (s.getD (138 + t.toNat) 0) then (12 : UInt8) else (s.getD (138 + t.toNat) 0)).toNat) - a34) (a7, a34) ∧ m' = ((if (12 : UInt8) < (s.getD (138 + t.toNat) 0) then (12 : UInt8) else (s.getD (138 + t.toNat) 0)).toNat) - a34) _ ⟨(s.getD (36 + loc.toNat) 0), 0, (by kernel_rfl), H, (by omega), bf hc1, rfl⟩ ?_
  clear H
  rintro _ a_ w3 ⟨a7, a34, ha_, H, hia0, hFa, rfl⟩
  obtain ⟨ua, hu_⟩ : ∃ u : Nat → Value, ∀ n, tq a_ n = u n := ⟨_, fun _ => rfl⟩
  try simp only [hu_] at ha_
  clear hu_; subst ha_
  refine wsr ?_
  refine wr (rp_int_lss rfl (a34 : Int) ((((if (12 : UInt8) < (s.getD (138 + t.toNat) 0) then (12 : UInt8) else (s.getD (138 + t.toNat) 0)).toNat) : Nat) : Int) rfl rfl) ?_; simp only [N]
  refine wpList_nil ?_
  refine wp_seq ?_; refine wp_cond_split rfl (fun hc2 => ?_) (fun hc2 => ?_)
  · --T 2
   have hc2N10 : (a34 : Int) < ((((if (12 : UInt8) < (s.getD (138 + t.toNat) 0) then (12 : UInt8) else (s.getD (138 + t.toNat) 0)).toNat) : Nat) : Int) := (by simpa using hc2)
   obtain ⟨ra, hra⟩ : ∃ r, r = loopN (seenF_a s t loc) seenF_ak (((if (12 : UInt8) < (s.getD (138 + t.toNat) 0) then (12 : UInt8) else (s.getD (138 + t.toNat) 0)).toNat) - (a34 + 1)) := ⟨_, rfl⟩
   have hFa2 := hFa.trans (loopN_step (show a34 < ((if (12 : UInt8) < (s.getD (138 + t.toNat) 0) then (12 : UInt8) else (s.getD (138 + t.toNat) 0)).toNat) by omega))
   rw [← hra] at hFa2
   refine wp_skip ?_
   refine wp_seq ?_; refine wp_block ?_
   refine wsr ?_
   refine wr (rp_indexAddr_slice rfl Tryz.underlying68 sz36 rfl a34 rfl (by omega)) ?_; simp only [N]
   refine wr (rp_loadNA H 0 rfl rfl rfl Tryz.underlying36 rfl sz36 (42 + t.toNat * 24 + a34 * 2)) ?_; simp only [N]
   refine wl_alloc H rfl rfl zv36 ?_
   clear H; intro b2 w4 hnb2 H; dsimp only [Value.cells] at H
   simp only [N]
   replace H : Own w [] [] [.blk b2 (.cells (enc (List.replicate 2 (0 : UInt8))).toArray 36 (0, 0)), .blk b1 (.cells (enc s).toArray 41 (0, 0))] _ := H
   refine wl_storeA H 0 rfl rfl rfl rfl ((s.drop (42 + t.toNat * 24 + a34 * 2)).take 2) rfl sz36 ?_
   clear H; intro w5 H; simp only [M] at H
   simp only [N]
   refine wnr ?_
   refine wr (rp_fieldAddr rfl Tryz.underlying36 rfl 0 rfl sz5 rfl 0 rfl) ?_; simp only [N]
   refine wr (rp_load1A H 0 rfl rfl rfl Tryz.underlying5 rfl 0 rfl) ?_; simp only [N]
   refine wmv (bv loc) ?_; simp only [N]
   refine wr (rp_u8_eql rfl (((s.drop (42 + t.toNat * 24 + a34 * 2)).take 2).getD 0 0) loc rfl rfl) ?_; simp only [N]
   refine wpList_nil ?_
   refine wp_cond_split rfl (fun hc3 => ?_) (fun hc3 => ?_)
   · --T 3
    have hc3N11 : (((s.drop (42 + t.toNat * 24 + a34 * 2)).take 2).getD 0 0).toNat = loc.toNat := u8_eq hc3
    refine wp_region_lit ?_; refine wr (rp_fieldAddr rfl Tryz.underlying36 rfl 1 rfl sz5 rfl 1 rfl) ?_; simp only [N]
    refine wr (rp_load1A H 0 rfl rfl rfl Tryz.underlying5 rfl 1 rfl) ?_; simp only [N]
    refine wasg (bv (((s.drop (42 + t.toNat * 24 + a34 * 2)).take 2).getD 1 0)) ?_; simp only [N]
    refine wpList_nil ?_
    refine wp_region_lit ?_; refine wr (rp_int_add rfl (a34 : Int) (1 : Int) rfl rfl (by omega)) ?_; simp only [N]
    refine wmv (iv ((a34 : Int) + (1 : Int))) ?_; simp only [N]
    refine wpList_nil ?_
    replace H := H.dropNew 0 rfl (foot_blk hnb2); simp only [m5, m6] at H
    show ∃ n', n' < _ ∧ _
    refine ⟨_, ?_, (((s.drop (42 + t.toNat * 24 + a34 * 2)).take 2).getD 1 0), (a34 + 1), (by kernel_rfl), H, (by omega), (hFa2.trans (bt hc3)).trans (congrFun hra _), rfl⟩
    omega
   · --F 3
    have hc3N12 : (((s.drop (42 + t.toNat * 24 + a34 * 2)).take 2).getD 0 0).toNat ≠ loc.toNat := u8_ne hc3
    refine wp_skip ?_
    refine wp_region_lit ?_; refine wr (rp_int_add rfl (a34 : Int) (1 : Int) rfl rfl (by omega)) ?_; simp only [N]
    refine wmv (iv ((a34 : Int) + (1 : Int))) ?_; simp only [N]
    refine wpList_nil ?_
    replace H := H.dropNew 0 rfl (foot_blk hnb2); simp only [m5, m6] at H
    show ∃ n', n' < _ ∧ _
    refine ⟨_, ?_, a7, (a34 + 1), (by kernel_rfl), H, (by omega), (hFa2.trans (bf hc3)).trans (congrFun hra _), rfl⟩
    omega
  · --F 2
   have hc2N13 : ((((if (12 : UInt8) < (s.getD (138 + t.toNat) 0) then (12 : UInt8) else (s.getD (138 + t.toNat) 0)).toNat) : Nat) : Int) ≤ (a34 : Int) := (by simpa using hc2)
   have hFa2 := hFa.trans (loopN_end (show ((if (12 : UInt8) < (s.getD (138 + t.toNat) 0) then (12 : UInt8) else (s.getD (138 + t.toNat) 0)).toNat) ≤ a34 by omega))
   refine wp_exit ?_
   refine wsr ?_
   refine wmv (bv a7) ?_; simp only [N]
   refine wasg (bv a7) ?_; simp only [N]
   refine wpList_nil ?_
   refine wp_ret ?_
   try simp only [Exit.inBlock, Exit.then, cutP]
   refine bodyPost_ret (results1 rfl (rv_tmp rfl)) rfl ?_
   have hF : (seenF s t loc) = a7 := hFa2
   rw [hF]
   exact ⟨rfl, H.ext⟩

def bMayF_a (p : Prog) (mach : UInt8) (s : List UInt8) (t : Nat) (a37 : Bool) : Bool :=
  bif a37 then ((s.getD (138 + t) 0) == (0 : UInt8)) else (bif (((p.threads.l.getD t default).l.getD ((s.getD (t * 9) 0).toNat) default).op == (7 : UInt8)) then ((((s.getD (138 + t) 0) == (0 : UInt8)) || (((p.threads.l.getD t default).l.getD ((s.getD (t * 9) 0).toNat) default).mode == (4 : UInt8))) || ((((p.threads.l.getD t default).l.getD ((s.getD (t * 9) 0).toNat) default).mode == (5 : UInt8)) && (mach != (3 : UInt8)))) else true)
def bMayF (p : Prog) (mach : UInt8) (s : List UInt8) (t : Nat) : Bool :=
  bif (decide ((((p.threads.l.getD t default).l.length : Nat) : Int) ≤ ((s.getD (t * 9) 0).toNat : Int))) then false else (bif (((p.threads.l.getD t default).l.getD ((s.getD (t * 9) 0).toNat) default).op == (4 : UInt8)) then (bMayF_a p mach s t (((p.threads.l.getD t default).l.getD ((s.getD (t * 9) 0).toNat) default).op == (4 : UInt8))) else (bif (((p.threads.l.getD t default).l.getD ((s.getD (t * 9) 0).toNat) default).op == (5 : UInt8)) then (bMayF_a p mach s t (((p.threads.l.getD t default).l.getD ((s.getD (t * 9) 0).toNat) default).op == (5 : UInt8))) else (bMayF_a p mach s t (((p.threads.l.getD t default).l.getD ((s.getD (t * 9) 0).toNat) default).op == (6 : UInt8)))))


theorem bMayF_spec (p : Prog) (mach : UInt8) (s : List UInt8) (t : Nat) (hs : s.length = 142) (ht : t < p.threads.l.length) (hl : p.threads.l.length ≤ 4) (w : World) (hp : (IsProg p) w) :
    Calls Tryz.prog 46 #[.agg p.cells.toArray, bv mach, .agg (enc s).toArray, iv (t : Int)] w fun e w' => e = .returned (.bool (bMayF p mach s t)) ∧ Ext w w' := by
 have H := Own.start_ro w [IsProg p] (List.forall_mem_cons.2 ⟨fun w' hw => hp.keep hw, fun _ h => by cases h⟩)
 have hcp1 := hp.locs.2.2
 have hcp2 := hp.init.2.2
 have hcp3 := hp.threads.2.2
 go_enter Tryz.func46, Tryz.ntmps46
 refine wsr ?_
 refine wl_box H rfl rfl (v := .agg (p.cells).toArray) rfl ?_
 clear H; intro b1 w1 hnb1 H; dsimp only [Value.cells] at H
 simp only [N]
 refine wl_box H rfl rfl (v := .agg (enc s).toArray) rfl ?_
 clear H; intro b2 w2 hnb2 H; dsimp only [Value.cells] at H
 simp only [N]
 refine wasg (.bool false) ?_; simp only [N]
 refine wpList_nil ?_
 refine wp_seq ?_; refine wp_seq ?_; refine wp_region_own H (by kernel_rfl) (by kernel_rfl) ?_
 refine wq_run rfl (fun w H => rp_move rfl (v := iv (t : Int)) rfl) ?_; simp only [N]
 refine wq_run rfl (fun w H => rp_fieldAddr rfl Tryz.underlying41 rfl 0 rfl sz33 rfl 0 rfl) ?_; simp only [N]
 refine wq_run rfl (fun w H => rp_indexAddr_arr rfl Tryz.underlying33 sz32 rfl t rfl (by omega) (t * 9) (by omega)) ?_; simp only [N]
 refine wq_run rfl (fun w H => rp_fieldAddr rfl Tryz.underlying32 rfl 0 rfl sz5 rfl (t * 9) (by omega)) ?_; simp only [N]
 refine wq_run rfl (fun w H => rp_load1A H 0 rfl rfl rfl Tryz.underlying5 rfl (t * 9) rfl) ?_; simp only [N]
 refine wq_run rfl (fun w H => rp_u8_to_int rfl Tryz.underlying5 Tryz.underlying3 (s.getD (t * 9) 0) rfl) ?_; simp only [N]
 refine wq_run rfl (fun w H => rp_fieldAddr rfl Tryz.underlying29 rfl 3 rfl sz24 rfl 3 rfl) ?_; simp only [N]
 refine wq_run rfl (fun w H => rp_load1 H 1 rfl rfl rfl Tryz.underlying24 rfl (v := p.threads.val) rfl) ?_; simp only [N]
 refine wq_run rfl (fun w H => rp_move rfl (v := iv (t : Int)) rfl) ?_; simp only [N]
 refine wq_run rfl (fun w H => rp_indexAddr_sl (IsProg.threads (H.ro_at 0 rfl)) rfl Tryz.underlying24 sz59 rfl t rfl (by omega)) ?_; simp only [N]
 refine wq_run rfl (fun w H => rp_load1_sl (IsProg.threads (H.ro_at 0 rfl)) t (by omega) rfl Tryz.underlying59 rfl 0 rfl (by omega) (v := (p.threads.l.getD t default).val) rfl) ?_; simp only [N]
 refine wq_run rfl (fun w H => rp_len_sl (s := (p.threads.l.getD t default)) Tryz.underlying59 rfl) ?_; simp only [N]
 refine wq_run rfl (fun w H => rp_int_geq rfl ((s.getD (t * 9) 0).toNat : Int) (((p.threads.l.getD t default).l.length : Nat) : Int) rfl rfl) ?_; simp only [N]
 refine wq_nil ?_
 clear H; intro w3 H
 refine wp_cond_split rfl (fun hc1 => ?_) (fun hc1 => ?_)
 · --T 1
  have hc1N1 : (((p.threads.l.getD t default).l.length : Nat) : Int) ≤ ((s.getD (t * 9) 0).toNat : Int) := (by simpa using hc1)
  refine wsr ?_
  refine wasg (.bool false) ?_; simp only [N]
  refine wpList_nil ?_
  refine wp_ret ?_
  try simp only [Exit.inBlock, Exit.then, cutP]
  refine bodyPost_ret (results1 rfl (rv_tmp rfl)) rfl ?_
  have hF : (bMayF p mach s t) = false := bt hc1
  rw [hF]
  exact ⟨rfl, H.ext⟩
 · --F 1
  have hc1N2 : ((s.getD (t * 9) 0).toNat : Int) < (((p.threads.l.getD t default).l.length : Nat) : Int) := (by simpa using hc1)
  refine wp_skip ?_
  refine wp_seq ?_; refine wp_region_mix 14 H (by kernel_rfl) ?_
  refine wxl_tk 0 rfl (xy_run rfl (fun w H => rp_fieldAddr rfl Tryz.underlying29 rfl 3 rfl sz24 rfl 3 rfl)) ?_; simp only [N]
  refine wxl_tk 1 rfl (xy_run rfl (fun w H => rp_load1 H 1 rfl rfl rfl Tryz.underlying24 rfl (v := p.threads.val) rfl)) ?_; simp only [N]
  refine wxl_tk 2 rfl (xy_run rfl (fun w H => rp_move rfl (v := iv (t : Int)) rfl)) ?_; simp only [N]
  refine wxl_tk 3 rfl (xy_run rfl (fun w H => rp_indexAddr_sl (IsProg.threads (H.ro_at 0 rfl)) rfl Tryz.underlying24 sz59 rfl t rfl (by omega))) ?_; simp only [N]
  refine wxl_tk 4 rfl (xy_run rfl (fun w H => rp_load1_sl (IsProg.threads (H.ro_at 0 rfl)) t (by omega) rfl Tryz.underlying59 rfl 0 rfl (by omega) (v := (p.threads.l.getD t default).val) rfl)) ?_; simp only [N]
  refine wxl_tk 5 rfl (xy_run rfl (fun w H => rp_move rfl (v := iv (t : Int)) rfl)) ?_; simp only [N]
  refine wxl_tk 6 rfl (xy_run rfl (fun w H => rp_fieldAddr rfl Tryz.underlying41 rfl 0 rfl sz33 rfl 0 rfl)) ?_; simp only [N]
  refine wxl_tk 7 rfl (xy_run rfl (fun w H => rp_indexAddr_arr rfl Tryz.underlying33 sz32 rfl t rfl (by omega) (t * 9) (by omega))) ?_; simp only [N]
  refine wxl_tk 8 rfl (xy_run rfl (fun w H => rp_fieldAddr rfl Tryz.underlying32 rfl 0 rfl sz5 rfl (t * 9) (by omega))) ?_; simp only [N]
  refine wxl_tk 9 rfl (xy_run rfl (fun w H => rp_load1A H 0 rfl rfl rfl Tryz.underlying5 rfl (t * 9) rfl)) ?_; simp only [N]
  refine wxl_tk 10 rfl (xy_run rfl (fun w H => rp_indexAddr_sl (IsProg.ins_at (H.ro_at 0 rfl) (t := t) (by omega)) rfl Tryz.underlying59 sz58 rfl (s.getD (t * 9) 0).toNat rfl (by omega))) ?_; simp only [N]
  refine wxl_tk 11 rfl (xy_run rfl (fun w H => rp_loadN_sl (IsProg.ins_at (H.ro_at 0 rfl) (t := t) (by omega)) ((s.getD (t * 9) 0).toNat) (by omega) rfl Tryz.underlying58 rfl rfl sz58)) ?_; simp only [N]
  refine wxl_alloc 12 rfl rfl (by kernel_rfl) rfl (xa_alloc rfl zv58) ?_
  intro bd9
  simp only [N, M, Value.cells]
  refine wxl_store 13 0 rfl rfl (by kernel_rfl) rfl rfl (xs_whole rfl rfl (vs := (((p.threads.l.getD t default).l.getD ((s.getD (t * 9) 0).toNat) default).cells).toArray) rfl (Ins.cells_one _) (by first | exact sz58 | (rw [sz58]; congr 1; first | omega | simp [-List.reduceReplicate] <;> omega | simp [*, -List.reduceReplicate] <;> omega)) (by first | rfl | first | omega | simp [-List.reduceReplicate] <;> omega | simp [*, -List.reduceReplicate] <;> omega)) ?_
  simp only [N, M, Value.cells]
  refine wpX_done (by kernel_rfl) ?_ _
  clear H; intro w4 H; simp only [List.cons_append, List.nil_append] at H
  refine wp_seq ?_; refine wsr ?_
  refine wr (rp_fieldAddr rfl Tryz.underlying58 rfl 0 rfl sz5 rfl 0 rfl) ?_; simp only [N]
  refine wr (rp_load1 H 0 rfl rfl rfl Tryz.underlying5 rfl (v := bv ((p.threads.l.getD t default).l.getD ((s.getD (t * 9) 0).toNat) default).op) rfl) ?_; simp only [N]
  refine wpList_nil ?_
  refine wp_block ?_
  refine wp_seq ?_; refine wp_cutX (fun a' w' => ∃ (a37 : Bool), a' = ⟨#[(tq a' 0), bv mach, (tq a' 2), iv (t : Int), (tq a' 4), uU, .pointer (some ⟨b2, 0, none⟩), uU, (tq a' 8), .pointer (some ⟨bd9, 0, none⟩), (tq a' 10), (tq a' 11), (tq a' 12), (tq a' 13), (tq a' 14), (tq a' 15), (tq a' 16), (tq a' 17), (tq a' 18), (tq a' 19), (tq a' 20), (tq a' 21), (tq a' 22), (tq a' 23), (tq a' 24), (tq a' 25), (tq a' 26), (tq a' 27), (tq a' 28), (tq a' 29), (tq a' 30), (tq a' 31), (tq a' 32), (tq a' 33), (tq a' 34), (tq a' 35), bv ((p.threads.l.getD t default).l.getD ((s.getD (t * 9) 0).toNat) default).op, .bool a37, (tq a' 38), (tq a' 39), (tq a' 40), uU, uU, uU, uU, uU, uU, uU, uU, uU, uU, uU, uU, uU, uU, uU, uU, uU, uU, uU, uU, uU, uU, uU, uU, uU, uU], []⟩ ∧ Own w [] [IsProg p] [.blk bd9 (.cells (((p.threads.l.getD t default).l.getD ((s.getD (t * 9) 0).toNat) default).cells).toArray 58 (0, 0)), .blk b2 (.cells (enc s).toArray 41 (0, 0)), .blk b1 (.cells (p.cells).toArray 29 (0, 0))] w' ∧ (bMayF p mach s t) = bMayF_a p mach s t a37) ?_ ?_
  ·
   refine wsr ?_
   refine wr (rp_u8_eql rfl ((p.threads.l.getD t default).l.getD ((s.getD (t * 9) 0).toNat) default).op (4 : UInt8) rfl rfl) ?_; simp only [N]
   refine wasg (.bool (((p.threads.l.getD t default).l.getD ((s.getD (t * 9) 0).toNat) default).op == (4 : UInt8))) ?_; simp only [N]
   refine wpList_nil ?_
   refine wp_cond_split rfl (fun hc2 => ?_) (fun hc2 => ?_)
   · --T 2
    have hc2N3 : (((p.threads.l.getD t default).l.getD ((s.getD (t * 9) 0).toNat) default).op).toNat = 4 := u8_eq hc2
    refine wp_skip ?_
    exact ⟨(((p.threads.l.getD t default).l.getD ((s.getD (t * 9) 0).toNat) default).op == (4 : UInt8)), (by kernel_rfl), H, (bf hc1).trans (bt hc2)⟩
   · --F 2
    have hc2N4 : (((p.threads.l.getD t default).l.getD ((s.getD (t * 9) 0).toNat) default).op).toNat ≠ 4 := u8_ne hc2
    refine wsr ?_
    refine wr (rp_u8_eql rfl ((p.threads.l.getD t default).l.getD ((s.getD (t * 9) 0).toNat) default).op (5 : UInt8) rfl rfl) ?_; simp only [N]
    refine wasg (.bool (((p.threads.l.getD t default).l.getD ((s.getD (t * 9) 0).toNat) default).op == (5 : UInt8))) ?_; simp only [N]
    refine wpList_nil ?_
    refine wp_cond_split rfl (fun hc3 => ?_) (fun hc3 => ?_)
    · --T 3
     have hc3N5 : (((p.threads.l.getD t default).l.getD ((s.getD (t * 9) 0).toNat) default).op).toNat = 5 := u8_eq hc3
     refine wp_skip ?_
     exact ⟨(((p.threads.l.getD t default).l.getD ((s.getD (t * 9) 0).toNat) default).op == (5 : UInt8)), (by kernel_rfl), H, (bf hc1).trans ((bf hc2).trans (bt hc3))⟩
    · --F 3
     have hc3N6 : (((p.threads.l.getD t default).l.getD ((s.getD (t * 9) 0).toNat) default).op).toNat ≠ 5 := u8_ne hc3
     refine wp_region_lit ?_; refine wr (rp_u8_eql rfl ((p.threads.l.getD t default).l.getD ((s.getD (t * 9) 0).toNat) default).op (6 : UInt8) rfl rfl) ?_; simp only [N]
     refine wasg (.bool (((p.threads.l.getD t default).l.getD ((s.getD (t * 9) 0).toNat) default).op == (6 : UInt8))) ?_; simp only [N]
     refine wpList_nil ?_
     exact ⟨(((p.threads.l.getD t default).l.getD ((s.getD (t * 9) 0).toNat) default).op == (6 : UInt8)), (by kernel_rfl), H, (bf hc1).trans ((bf hc2).trans (bf hc3))⟩
  clear H
  rintro a_ w5 ⟨a37, ha_, H, hFa⟩
  obtain ⟨ua, hu_⟩ : ∃ u : Nat → Value, ∀ n, tq a_ n = u n := ⟨_, fun _ => rfl⟩
  try simp only [hu_] at ha_
  clear hu_; subst ha_
  refine wp_cond_split rfl (fun hc4 => ?_) (fun hc4 => ?_)
  · --T 4
   refine wsr ?_
   refine wmv (iv (t : Int)) ?_; simp only [N]
   refine wr (rp_fieldAddr rfl Tryz.underlying41 rfl 138 rfl sz39 rfl 138 rfl) ?_; simp only [N]
   refine wr (rp_indexAddr_arr rfl Tryz.underlying39 sz5 rfl t rfl (by omega) (138 + t) (by omega)) ?_; simp only [N]
   refine wr (rp_load1A H 1 rfl rfl rfl Tryz.underlying5 rfl (138 + t) rfl) ?_; simp only [N]
   refine wr (rp_u8_eql rfl (s.getD (138 + t) 0) (0 : UInt8) rfl rfl) ?_; simp only [N]
   refine wasg (.bool ((s.getD (138 + t) 0) == (0 : UInt8))) ?_; simp only [N]
   refine wpList_nil ?_
   refine wp_ret ?_
   try simp only [Exit.inBlock, Exit.then, cutP]
   refine bodyPost_ret (results1 rfl (rv_tmp rfl)) rfl ?_
   have hF : (bMayF p mach s t) = ((s.getD (138 + t) 0) == (0 : UInt8)) := hFa.trans (bt hc4)
   rw [hF]
   exact ⟨rfl, H.ext⟩
  · --F 4
   refine wsr ?_
   refine wr (rp_u8_eql rfl ((p.threads.l.getD t default).l.getD ((s.getD (t * 9) 0).toNat) default).op (7 : UInt8) rfl rfl) ?_; simp only [N]
   refine wasg (.bool (((p.threads.l.getD t default).l.getD ((s.getD (t * 9) 0).toNat) default).op == (7 : UInt8))) ?_; simp only [N]
   refine wpList_nil ?_
   refine wp_cond_split rfl (fun hc5 => ?_) (fun hc5 => ?_)
   · --T 5
    have hc5N7 : (((p.threads.l.getD t default).l.getD ((s.getD (t * 9) 0).toNat) default).op).toNat = 7 := u8_eq hc5
    refine wsr ?_
    refine wmv (iv (t : Int)) ?_; simp only [N]
    refine wr (rp_fieldAddr rfl Tryz.underlying41 rfl 138 rfl sz39 rfl 138 rfl) ?_; simp only [N]
    refine wr (rp_indexAddr_arr rfl Tryz.underlying39 sz5 rfl t rfl (by omega) (138 + t) (by omega)) ?_; simp only [N]
    refine wr (rp_load1A H 1 rfl rfl rfl Tryz.underlying5 rfl (138 + t) rfl) ?_; simp only [N]
    refine wr (rp_u8_eql rfl (s.getD (138 + t) 0) (0 : UInt8) rfl rfl) ?_; simp only [N]
    refine wmv (.bool ((s.getD (138 + t) 0) == (0 : UInt8))) ?_; simp only [N]
    refine wl_g (wn_f rfl rfl) (v := .pointer (some ⟨bd9, 8, none⟩)) (fun hg => rp_fieldAddr rfl Tryz.underlying58 rfl 8 rfl sz5 rfl 8 rfl) ?_; simp only [N]
    refine wl_g (wn_f rfl rfl) (v := bv ((p.threads.l.getD t default).l.getD ((s.getD (t * 9) 0).toNat) default).mode) (fun hg => by have x9 : (s.getD (138 + t) 0).toNat ≠ 0 := u8_ne (notT hg); exact (by simp only [gv_t hg]; exact rp_load1 H 0 rfl rfl rfl Tryz.underlying5 rfl (v := bv ((p.threads.l.getD t default).l.getD ((s.getD (t * 9) 0).toNat) default).mode) rfl)) ?_; simp only [N]
    refine wl_g (wn_f rfl rfl) (v := .bool (((p.threads.l.getD t default).l.getD ((s.getD (t * 9) 0).toNat) default).mode == (4 : UInt8))) (fun hg => by have x10 : (s.getD (138 + t) 0).toNat ≠ 0 := u8_ne (notT hg); exact (by simp only [gv_t hg]; exact rp_u8_eql rfl ((p.threads.l.getD t default).l.getD ((s.getD (t * 9) 0).toNat) default).mode (4 : UInt8) rfl rfl)) ?_; simp only [N]
    refine wr (rp_pickO rfl (p := ((s.getD (138 + t) 0) == (0 : UInt8))) (q := (((p.threads.l.getD t default).l.getD ((s.getD (t * 9) 0).toNat) default).mode == (4 : UInt8))) rfl rfl rfl) ?_; simp only [N]
    refine wmv (.bool (((s.getD (138 + t) 0) == (0 : UInt8)) || (((p.threads.l.getD t default).l.getD ((s.getD (t * 9) 0).toNat) default).mode == (4 : UInt8)))) ?_; simp only [N]
    refine wl_g (wn_f rfl rfl) (v := .pointer (some ⟨bd9, 8, none⟩)) (fun hg => rp_fieldAddr rfl Tryz.underlying58 rfl 8 rfl sz5 rfl 8 rfl) ?_; simp only [N]
    refine wl_g (wn_f rfl rfl) (v := bv ((p.threads.l.getD t default).l.getD ((s.getD (t * 9) 0).toNat) default).mode) (fun hg => by have x13 : (s.getD (138 + t) 0).toNat ≠ 0 := u8_ne (orl (notT hg)); have x14 : (((p.threads.l.getD t default).l.getD ((s.getD (t * 9) 0).toNat) default).mode).toNat ≠ 4 := u8_ne (orr (notT hg)); exact (by simp only [gv_t hg]; exact rp_load1 H 0 rfl rfl rfl Tryz.underlying5 rfl (v := bv ((p.threads.l.getD t default).l.getD ((s.getD (t * 9) 0).toNat) default).mode) rfl)) ?_; simp only [N]
    refine wl_g (wn_f rfl rfl) (v := .bool (((p.threads.l.getD t default).l.getD ((s.getD (t * 9) 0).toNat) default).mode == (5 : UInt8))) (fun hg => by have x15 : (s.getD (138 + t) 0).toNat ≠ 0 := u8_ne (orl (notT hg)); have x16 : (((p.threads.l.getD t default).l.getD ((s.getD (t * 9) 0).toNat) default).mode).toNat ≠ 4 := u8_ne (orr (notT hg)); exact (by simp only [gv_t hg]; exact rp_u8_eql rfl ((p.threads.l.getD t default).l.getD ((s.getD (t * 9) 0).toNat) default).mode (5 : UInt8) rfl rfl)) ?_; simp only [N]
    refine wl_g (wn_f rfl rfl) (v := .bool (((p.threads.l.getD t default).l.getD ((s.getD (t * 9) 0).toNat) default).mode == (5 : UInt8))) (fun hg => by have x17 : (s.getD (138 + t) 0).toNat ≠ 0 := u8_ne (orl (notT hg)); have x18 : (((p.threads.l.getD t default).l.getD ((s.getD (t * 9) 0).toNat) default).mode).toNat ≠ 4 := u8_ne (orr (notT hg)); exact (by simp only [gv_t hg]; exact rp_move rfl (v := .bool (((p.threads.l.getD t default).l.getD ((s.getD (t * 9) 0).toNat) default).mode == (5 : UInt8))) rfl)) ?_; simp only [N]
    refine wl_g (wn_tg rfl rfl rfl) (v := bv mach) (fun hg => rp_move rfl (v := bv mach) rfl) ?_; simp only [N]
    refine wl_g (wn_tg rfl rfl rfl) (v := .bool (mach != (3 : UInt8))) (fun hg => by have x22 : (s.getD (138 + t) 0).toNat ≠ 0 := u8_ne (orl (notT (andl hg))); have x23 : (((p.threads.l.getD t default).l.getD ((s.getD (t * 9) 0).toNat) default).mode).toNat ≠ 4 := u8_ne (orr (notT (andl hg))); have x24 : (((p.threads.l.getD t default).l.getD ((s.getD (t * 9) 0).toNat) default).mode).toNat = 5 := u8_eq (andr hg); exact (by simp only [gv_t hg]; exact rp_u8_neq rfl mach (3 : UInt8) rfl rfl)) ?_; simp only [N]
    refine wl_g (wn_f rfl rfl) (v := .bool ((((p.threads.l.getD t default).l.getD ((s.getD (t * 9) 0).toNat) default).mode == (5 : UInt8)) && (mach != (3 : UInt8)))) (fun hg => rp_pickAg rfl (p := (((p.threads.l.getD t default).l.getD ((s.getD (t * 9) 0).toNat) default).mode == (5 : UInt8))) (q := (mach != (3 : UInt8))) hg rfl rfl rfl) ?_; simp only [N]
    refine wr (rp_pickO rfl (p := (((s.getD (138 + t) 0) == (0 : UInt8)) || (((p.threads.l.getD t default).l.getD ((s.getD (t * 9) 0).toNat) default).mode == (4 : UInt8)))) (q := ((((p.threads.l.getD t default).l.getD ((s.getD (t * 9) 0).toNat) default).mode == (5 : UInt8)) && (mach != (3 : UInt8)))) rfl rfl rfl) ?_; simp only [N]
    refine wasg (.bool ((((s.getD (138 + t) 0) == (0 : UInt8)) || (((p.threads.l.getD t default).l.getD ((s.getD (t * 9) 0).toNat) default).mode == (4 : UInt8))) || ((((p.threads.l.getD t default).l.getD ((s.getD (t * 9) 0).toNat) default).mode == (5 : UInt8)) && (mach != (3 : UInt8))))) ?_; simp only [N]
    refine wpList_nil ?_
    refine wp_ret ?_
    try simp only [Exit.inBlock, Exit.then, cutP]
    refine bodyPost_ret (results1 rfl (rv_tmp rfl)) rfl ?_
    have hF : (bMayF p mach s t) = ((((s.getD (138 + t) 0) == (0 : UInt8)) || (((p.threads.l.getD t default).l.getD ((s.getD (t * 9) 0).toNat) default).mode == (4 : UInt8))) || ((((p.threads.l.getD t default).l.getD ((s.getD (t * 9) 0).toNat) default).mode == (5 : UInt8)) && (mach != (3 : UInt8)))) := hFa.trans ((bf hc4).trans (bt hc5))
    rw [hF]
    exact ⟨rfl, H.ext⟩
   · --F 5
    have hc5N27 : (((p.threads.l.getD t default).l.getD ((s.getD (t * 9) 0).toNat) default).op).toNat ≠ 7 := u8_ne hc5
    refine wp_skip ?_
    refine wsr ?_
    refine wasg (.bool true) ?_; simp only [N]
    refine wpList_nil ?_
    refine wp_ret ?_
    try simp only [Exit.inBlock, Exit.then, cutP]
    refine bodyPost_ret (results1 rfl (rv_tmp rfl)) rfl ?_
    have hF : (bMayF p mach s t) = true := hFa.trans ((bf hc4).trans (bf hc5))
    rw [hF]
    exact ⟨rfl, H.ext⟩

def drainsF_a (mach : UInt8) (s : List UInt8) (t : Nat) (ra : (UInt8 × (List Pass)) → (List Pass)) : (UInt8 × (List Pass)) → (List Pass) := fun s_ => match s_ with | (a14, arow1) => bif (decide (a14 < (s.getD (138 + t) 0))) then (bif ((mach == (2 : UInt8)) && (a14 == (0 : UInt8))) then (ra ((a14 + (1 : UInt8)), (arow1 ++ [(⟨(UInt8.ofNat ((t : Int) % 256).toNat), true, (0 : UInt8)⟩ : Pass)]))) else (bif ((mach == (3 : UInt8)) && ((a14 == (0 : UInt8)) || ((s.getD (42 + t * 24 + (a14 - (1 : UInt8)).toNat * 2) 0) != (s.getD (42 + t * 24 + a14.toNat * 2) 0)))) then (ra ((a14 + (1 : UInt8)), (arow1 ++ [(⟨(UInt8.ofNat ((t : Int) % 256).toNat), true, (s.getD (42 + t * 24 + a14.toNat * 2) 0)⟩ : Pass)]))) else (ra ((a14 + (1 : UInt8)), arow1)))) else arow1
def drainsF (mach : UInt8) (s : List UInt8) (t : Nat) : (List Pass) :=
  loopF (drainsF_a mach s t) 256 ((0 : UInt8), ([] : List Pass))


theorem drainsF_spec (mach : UInt8) (s : List UInt8) (t : Nat) (hs : s.length = 142) (ht : t < 4) (hm : (s.getD (138 + t) 0).toNat ≤ 12) (w : World) :
    Calls Tryz.prog 47 #[bv mach, .agg (enc s).toArray, iv (t : Int)] w fun e w' => ∃ x : (Option Addr × Nat), e = .returned ((⟨x.1, x.2, (drainsF mach s t)⟩ : Sl Pass).val) ∧ Ext w w' ∧ Fresh w w' (SlIn 3 Pass.cells (⟨x.1, x.2, (drainsF mach s t)⟩ : Sl Pass)) := by
 have H := Own.start w
 go_enter Tryz.func47, Tryz.ntmps47
 refine wsr ?_
 refine wl_box H rfl rfl (v := .agg (enc s).toArray) rfl ?_
 clear H; intro b1 w1 hnb1 H; dsimp only [Value.cells] at H
 simp only [N]
 refine wasg ((.slice none 0 0)) ?_; simp only [N]
 refine wnr ?_
 refine wasg ((.slice none 0 0)) ?_; simp only [N]
 refine wpList_nil ?_
 refine wp_seq ?_; refine wsr ?_
 refine wmv (iv (t : Int)) ?_; simp only [N]
 refine wr (rp_fieldAddr rfl Tryz.underlying41 rfl 138 rfl sz39 rfl 138 rfl) ?_; simp only [N]
 refine wr (rp_indexAddr_arr rfl Tryz.underlying39 sz5 rfl t rfl (by omega) (138 + t) (by omega)) ?_; simp only [N]
 refine wr (rp_load1A H 0 rfl rfl rfl Tryz.underlying5 rfl (138 + t) rfl) ?_; simp only [N]
 refine wmv (bv (0 : UInt8)) ?_; simp only [N]
 refine wpList_nil ?_
 refine wp_block ?_
 have H := H.rowNilT Pass.cells 50 3
 refine wp_loopX (fun m' a' w' => ∃ (a14 : UInt8) (arow1 : List Pass) (avrow1 : Value) (na : Nat), a' = ⟨#[bv mach, (tq a' 1), iv (t : Int), uU, .pointer (some ⟨b1, 0, none⟩), uU, (tq a' 6), avrow1, (tq a' 8), (tq a' 9), (tq a' 10), (tq a' 11), (tq a' 12), bv (s.getD (138 + t) 0), bv a14, (tq a' 15), (tq a' 16), (tq a' 17), (tq a' 18), (tq a' 19), (tq a' 20), (tq a' 21), (tq a' 22), (tq a' 23), (tq a' 24), (tq a' 25), (tq a' 26), (tq a' 27), (tq a' 28), (tq a' 29), (tq a' 30), (tq a' 31), (tq a' 32), (tq a' 33), (tq a' 34), (tq a' 35), (tq a' 36), (tq a' 37), (tq a' 38), (tq a' 39), (tq a' 40), (tq a' 41), (tq a' 42), (tq a' 43), (tq a' 44), (tq a' 45), (tq a' 46), (tq a' 47), (tq a' 48), (tq a' 49), (tq a' 50), (tq a' 51), (tq a' 52), (tq a' 53), (tq a' 54), (tq a' 55), (tq a' 56), (tq a' 57), (tq a' 58), (tq a' 59), (tq a' 60), (tq a' 61), (tq a' 62), (tq a' 63), uU], []⟩ ∧ Own w [] [] [.row avrow1 50 3 arow1.length (arow1.flatMap Pass.cells), .blk b1 (.cells (enc s).toArray 41 (0, 0))] w' ∧ (arow1.length ≤ a14.toNat) ∧ (s.getD (138 + t) 0).toNat - a14.toNat < na ∧ (drainsF mach s t) = loopF (drainsF_a mach s t) na (a14, arow1) ∧ m' = (s.getD (138 + t) 0).toNat - a14.toNat) _ ⟨(0 : UInt8), ([] : List Pass), (.slice none 0 0), 256, (by kernel_rfl), H, (by simp), (by have := UInt8.toNat_lt (s.getD (138 + t) 0); omega), rfl, rfl⟩ ?_
 clear H
 rintro _ a_ w2 ⟨a14, arow1, avrow1, na, ha_, H, hia0, hma, hFa, rfl⟩
 obtain ⟨ua, hu_⟩ : ∃ u : Nat → Value, ∀ n, tq a_ n = u n := ⟨_, fun _ => rfl⟩
 try simp only [hu_] at ha_
 clear hu_; subst ha_
 obtain ⟨na, rfl⟩ : ∃ q, na = q + 1 := ⟨na - 1, by omega⟩
 obtain ⟨ra, hra⟩ : ∃ r, r = loopF (drainsF_a mach s t) na := ⟨_, rfl⟩
 have hFa : (drainsF mach s t) = drainsF_a mach s t ra (a14, arow1) := hFa.trans (by rw [hra]; rfl)
 refine wsr ?_
 refine wr (rp_u8_lss rfl a14 (s.getD (138 + t) 0) rfl rfl) ?_; simp only [N]
 refine wpList_nil ?_
 refine wp_seq ?_; refine wp_cond_split rfl (fun hc1 => ?_) (fun hc1 => ?_)
 · --T 1
  have hc1N1 : a14.toNat < (s.getD (138 + t) 0).toNat := u8_lt hc1
  have hu1 := u8_sub1 a14
  refine wp_skip ?_
  refine wp_seq ?_; refine wp_block ?_
  refine wsr ?_
  refine wmv (bv a14) ?_; simp only [N]
  refine wasg (bv a14) ?_; simp only [N]
  refine wnr ?_
  refine wmv (iv (t : Int)) ?_; simp only [N]
  refine wmv (bv a14) ?_; simp only [N]
  refine wr (rp_fieldAddr rfl Tryz.underlying41 rfl 42 rfl sz38 rfl 42 rfl) ?_; simp only [N]
  refine wr (rp_indexAddr_arr rfl Tryz.underlying38 sz37 rfl t rfl (by omega) (42 + t * 24) (by omega)) ?_; simp only [N]
  refine wr (rp_indexAddr_arr rfl Tryz.underlying37 sz36 rfl a14.toNat rfl (by omega) (42 + t * 24 + a14.toNat * 2) (by omega)) ?_; simp only [N]
  refine wr (rp_fieldAddr rfl Tryz.underlying36 rfl 0 rfl sz5 rfl (42 + t * 24 + a14.toNat * 2) (by omega)) ?_; simp only [N]
  refine wr (rp_load1A H 1 rfl rfl rfl Tryz.underlying5 rfl (42 + t * 24 + a14.toNat * 2) rfl) ?_; simp only [N]
  refine wasg (bv (s.getD (42 + t * 24 + a14.toNat * 2) 0)) ?_; simp only [N]
  refine wpList_nil ?_
  refine wp_block ?_
  refine wsr ?_
  refine wmv (bv mach) ?_; simp only [N]
  refine wr (rp_u8_eql rfl mach (2 : UInt8) rfl rfl) ?_; simp only [N]
  refine wmv (.bool (mach == (2 : UInt8))) ?_; simp only [N]
  refine wl_g (wn_t rfl rfl) (v := bv a14) (fun hg => rp_move rfl (v := bv a14) rfl) ?_; simp only [N]
  refine wl_g (wn_t rfl rfl) (v := .bool (a14 == (0 : UInt8))) (fun hg => by have x3 : mach.toNat = 2 := u8_eq hg; exact (by simp only [gv_t hg]; exact rp_u8_eql rfl a14 (0 : UInt8) rfl rfl)) ?_; simp only [N]
  refine wr (rp_pickA rfl (p := (mach == (2 : UInt8))) (q := (a14 == (0 : UInt8))) rfl rfl rfl) ?_; simp only [N]
  refine wasg (.bool ((mach == (2 : UInt8)) && (a14 == (0 : UInt8)))) ?_; simp only [N]
  refine wpList_nil ?_
  refine wp_cond_split rfl (fun hc2 => ?_) (fun hc2 => ?_)
  · --T 2
   have hc2N4 : mach.toNat = 2 := u8_eq (andl hc2)
   have hc2N5 : a14.toNat = 0 := u8_eq (andr hc2)
   refine wp_region_lit ?_; refine wmv avrow1 ?_; simp only [N]
   refine wmv (iv (t : Int)) ?_; simp only [N]
   refine wr (rp_int_to_u8 rfl Tryz.underlying3 Tryz.underlying5 (t : Int) rfl) ?_; simp only [N]
   refine wr (rp_build rfl (vs := [(0, bv (UInt8.ofNat ((t : Int) % 256).toNat)), (1, .bool true)]) rfl (cs := #[bv (UInt8.ofNat ((t : Int) % 256).toNat), .bool true, bv (0 : UInt8)]) (by kernel_rfl)) ?_; simp only [N]
   refine wl_xallocF H rfl (xa_buildSlice rfl Tryz.underlying44 sz50 zv50 (by decide) (by decide) (vs := [(0, .agg #[bv (UInt8.ofNat ((t : Int) % 256).toNat), .bool true, bv (0 : UInt8)])]) rfl (cs := #[bv (UInt8.ofNat ((t : Int) % 256).toNat), .bool true, bv (0 : UInt8)]) (by kernel_rfl)) ?_
   clear H; intro b2 w3 hnb2 H
   simp only [N]
   refine wl_appendT Pass.cells H 0 rfl Tryz.underlying44 sz50 zv50 by50 rfl (by decide) rfl rfl (ad := ⟨b2, 0, none⟩) (m := 1) (c := 1) rfl [(⟨(UInt8.ofNat ((t : Int) % 256).toNat), true, (0 : UInt8)⟩ : Pass)] rfl Pass.cells_n (fun j u hu => cell_of_news (H.ro_at 0 rfl) j u hu) (by intro x; simp [Pass.cells, Value.oneCell']) (by first | omega | (simp only [List.length_append, List.length_cons, List.length_nil]; omega)) (by first | omega | (simp only [List.length_append, List.length_cons, List.length_nil]; omega)) (by simp) ?_
   clear H; intro b3 w4 H; simp only [M] at H
   simp only [N]
   refine wasg b3 ?_; simp only [N]
   refine wpList_nil ?_
   refine wp_region_lit ?_; refine wr (rp_u8_add rfl a14 (1 : UInt8) rfl rfl) ?_; simp only [N]
   refine wmv (bv (a14 + (1 : UInt8))) ?_; simp only [N]
   refine wpList_nil ?_
   replace H := H.facts (R' := []) (by first | exact fun _ h => h | simp)
   show ∃ n', n' < _ ∧ _
   refine ⟨_, ?_, (a14 + (1 : UInt8)), (arow1 ++ [(⟨(UInt8.ofNat ((t : Int) % 256).toNat), true, (0 : UInt8)⟩ : Pass)]), b3, na, (by kernel_rfl), H, (by have hs1 := u8_succ hc1; first | omega | (simp only [List.length_append, List.length_cons, List.length_nil]; omega)), (by have hs1 := u8_succ hc1; omega), (hFa.trans ((bt hc1).trans (bt hc2))).trans (congrFun hra _), rfl⟩
   have hs1 := u8_succ hc1; omega
  · --F 2
   refine wsr ?_
   refine wmv (bv mach) ?_; simp only [N]
   refine wr (rp_u8_eql rfl mach (3 : UInt8) rfl rfl) ?_; simp only [N]
   refine wmv (.bool (mach == (3 : UInt8))) ?_; simp only [N]
   refine wl_g (wn_t rfl rfl) (v := bv a14) (fun hg => rp_move rfl (v := bv a14) rfl) ?_; simp only [N]
   refine wl_g (wn_t rfl rfl) (v := .bool (a14 == (0 : UInt8))) (fun hg => by have x7 : mach.toNat = 3 := u8_eq hg; exact (by simp only [gv_t hg]; exact rp_u8_eql rfl a14 (0 : UInt8) rfl rfl)) ?_; simp only [N]
   refine wl_g (wn_t rfl rfl) (v := .bool (a14 == (0 : UInt8))) (fun hg => by have x8 : mach.toNat = 3 := u8_eq hg; exact (by simp only [gv_t hg]; exact rp_move rfl (v := .bool (a14 == (0 : UInt8))) rfl)) ?_; simp only [N]
   refine wl_g (wn_fg rfl rfl rfl) (v := iv (t : Int)) (fun hg => rp_move rfl (v := iv (t : Int)) rfl) ?_; simp only [N]
   refine wl_g (wn_fg rfl rfl rfl) (v := bv a14) (fun hg => rp_move rfl (v := bv a14) rfl) ?_; simp only [N]
   refine wl_g (wn_fg rfl rfl rfl) (v := bv (a14 - (1 : UInt8))) (fun hg => by have x13 : mach.toNat = 3 := u8_eq (andl hg); have x14 : a14.toNat ≠ 0 := u8_ne (notT (andr hg)); exact (by simp only [gv_t hg]; exact rp_u8_sub rfl a14 (1 : UInt8) rfl rfl)) ?_; simp only [N]
   refine wl_g (wn_fg rfl rfl rfl) (v := .pointer (some ⟨b1, 42, none⟩)) (fun hg => rp_fieldAddr rfl Tryz.underlying41 rfl 42 rfl sz38 rfl 42 rfl) ?_; simp only [N]
   refine wl_g (wn_fg rfl rfl rfl) (v := .pointer (some ⟨b1, 42 + t * 24, none⟩)) (fun hg => by have x17 : mach.toNat = 3 := u8_eq (andl hg); have x18 : a14.toNat ≠ 0 := u8_ne (notT (andr hg)); exact (by simp only [gv_t hg]; exact rp_indexAddr_arr rfl Tryz.underlying38 sz37 rfl t rfl (by omega) (42 + t * 24) (by omega))) ?_; simp only [N]
   refine wl_g (wn_fg rfl rfl rfl) (v := .pointer (some ⟨b1, 42 + t * 24 + (a14 - (1 : UInt8)).toNat * 2, none⟩)) (fun hg => by have x19 : mach.toNat = 3 := u8_eq (andl hg); have x20 : a14.toNat ≠ 0 := u8_ne (notT (andr hg)); exact (by simp only [gv_t hg]; exact rp_indexAddr_arr rfl Tryz.underlying37 sz36 rfl (a14 - (1 : UInt8)).toNat rfl (by omega) (42 + t * 24 + (a14 - (1 : UInt8)).toNat * 2) (by omega))) ?_; simp only [N]
   refine wl_g (wn_fg rfl rfl rfl) (v := .pointer (some ⟨b1, 42 + t * 24 + (a14 - (1 : UInt8)).toNat * 2, none⟩)) (fun hg => by have x21 : mach.toNat = 3 := u8_eq (andl hg); have x22 : a14.toNat ≠ 0 := u8_ne (notT (andr hg)); exact (by simp only [gv_t hg]; exact rp_fieldAddr rfl Tryz.underlying36 rfl 0 rfl sz5 rfl (42 + t * 24 + (a14 - (1 : UInt8)).toNat * 2) (by omega))) ?_; simp only [N]
   refine wl_g (wn_fg rfl rfl rfl) (v := bv (s.getD (42 + t * 24 + (a14 - (1 : UInt8)).toNat * 2) 0)) (fun hg => by have x23 : mach.toNat = 3 := u8_eq (andl hg); have x24 : a14.toNat ≠ 0 := u8_ne (notT (andr hg)); exact (by simp only [gv_t hg]; exact rp_load1A H 1 rfl rfl rfl Tryz.underlying5 rfl (42 + t * 24 + (a14 - (1 : UInt8)).toNat * 2) rfl)) ?_; simp only [N]
   refine wl_g (wn_fg rfl rfl rfl) (v := bv (s.getD (42 + t * 24 + a14.toNat * 2) 0)) (fun hg => rp_move rfl (v := bv (s.getD (42 + t * 24 + a14.toNat * 2) 0)) rfl) ?_; simp only [N]
   refine wl_g (wn_fg rfl rfl rfl) (v := .bool ((s.getD (42 + t * 24 + (a14 - (1 : UInt8)).toNat * 2) 0) != (s.getD (42 + t * 24 + a14.toNat * 2) 0))) (fun hg => by have x27 : mach.toNat = 3 := u8_eq (andl hg); have x28 : a14.toNat ≠ 0 := u8_ne (notT (andr hg)); exact (by simp only [gv_t hg]; exact rp_u8_neq rfl (s.getD (42 + t * 24 + (a14 - (1 : UInt8)).toNat * 2) 0) (s.getD (42 + t * 24 + a14.toNat * 2) 0) rfl rfl)) ?_; simp only [N]
   refine wl_g (wn_t rfl rfl) (v := .bool ((a14 == (0 : UInt8)) || ((s.getD (42 + t * 24 + (a14 - (1 : UInt8)).toNat * 2) 0) != (s.getD (42 + t * 24 + a14.toNat * 2) 0)))) (fun hg => rp_pickOg rfl (p := (a14 == (0 : UInt8))) (q := ((s.getD (42 + t * 24 + (a14 - (1 : UInt8)).toNat * 2) 0) != (s.getD (42 + t * 24 + a14.toNat * 2) 0))) hg rfl rfl rfl) ?_; simp only [N]
   refine wr (rp_pickA rfl (p := (mach == (3 : UInt8))) (q := ((a14 == (0 : UInt8)) || ((s.getD (42 + t * 24 + (a14 - (1 : UInt8)).toNat * 2) 0) != (s.getD (42 + t * 24 + a14.toNat * 2) 0)))) rfl rfl rfl) ?_; simp only [N]
   refine wasg (.bool ((mach == (3 : UInt8)) && ((a14 == (0 : UInt8)) || ((s.getD (42 + t * 24 + (a14 - (1 : UInt8)).toNat * 2) 0) != (s.getD (42 + t * 24 + a14.toNat * 2) 0))))) ?_; simp only [N]
   refine wpList_nil ?_
   refine wp_cond_split rfl (fun hc3 => ?_) (fun hc3 => ?_)
   · --T 3
    have hc3N30 : mach.toNat = 3 := u8_eq (andl hc3)
    refine wp_region_lit ?_; refine wmv avrow1 ?_; simp only [N]
    refine wmv (iv (t : Int)) ?_; simp only [N]
    refine wr (rp_int_to_u8 rfl Tryz.underlying3 Tryz.underlying5 (t : Int) rfl) ?_; simp only [N]
    refine wmv (bv (s.getD (42 + t * 24 + a14.toNat * 2) 0)) ?_; simp only [N]
    refine wr (rp_build rfl (vs := [(0, bv (UInt8.ofNat ((t : Int) % 256).toNat)), (1, .bool true), (2, bv (s.getD (42 + t * 24 + a14.toNat * 2) 0))]) rfl (cs := #[bv (UInt8.ofNat ((t : Int) % 256).toNat), .bool true, bv (s.getD (42 + t * 24 + a14.toNat * 2) 0)]) (by kernel_rfl)) ?_; simp only [N]
    refine wl_xallocF H rfl (xa_buildSlice rfl Tryz.underlying44 sz50 zv50 (by decide) (by decide) (vs := [(0, .agg #[bv (UInt8.ofNat ((t : Int) % 256).toNat), .bool true, bv (s.getD (42 + t * 24 + a14.toNat * 2) 0)])]) rfl (cs := #[bv (UInt8.ofNat ((t : Int) % 256).toNat), .bool true, bv (s.getD (42 + t * 24 + a14.toNat * 2) 0)]) (by kernel_rfl)) ?_
    clear H; intro b4 w5 hnb4 H
    simp only [N]
    refine wl_appendT Pass.cells H 0 rfl Tryz.underlying44 sz50 zv50 by50 rfl (by decide) rfl rfl (ad := ⟨b4, 0, none⟩) (m := 1) (c := 1) rfl [(⟨(UInt8.ofNat ((t : Int) % 256).toNat), true, (s.getD (42 + t * 24 + a14.toNat * 2) 0)⟩ : Pass)] rfl Pass.cells_n (fun j u hu => cell_of_news (H.ro_at 0 rfl) j u hu) (by intro x; simp [Pass.cells, Value.oneCell']) (by first | omega | (simp only [List.length_append, List.length_cons, List.length_nil]; omega)) (by first | omega | (simp only [List.length_append, List.length_cons, List.length_nil]; omega)) (by simp) ?_
    clear H; intro b5 w6 H; simp only [M] at H
    simp only [N]
    refine wasg b5 ?_; simp only [N]
    refine wpList_nil ?_
    refine wp_region_lit ?_; refine wr (rp_u8_add rfl a14 (1 : UInt8) rfl rfl) ?_; simp only [N]
    refine wmv (bv (a14 + (1 : UInt8))) ?_; simp only [N]
    refine wpList_nil ?_
    replace H := H.facts (R' := []) (by first | exact fun _ h => h | simp)
    show ∃ n', n' < _ ∧ _
    refine ⟨_, ?_, (a14 + (1 : UInt8)), (arow1 ++ [(⟨(UInt8.ofNat ((t : Int) % 256).toNat), true, (s.getD (42 + t * 24 + a14.toNat * 2) 0)⟩ : Pass)]), b5, na, (by kernel_rfl), H, (by have hs1 := u8_succ hc1; first | omega | (simp only [List.length_append, List.length_cons, List.length_nil]; omega)), (by have hs1 := u8_succ hc1; omega), (hFa.trans ((bt hc1).trans ((bf hc2).trans (bt hc3)))).trans (congrFun hra _), rfl⟩
    have hs1 := u8_succ hc1; omega
   · --F 3
    refine wp_skip ?_
    refine wp_region_lit ?_; refine wr (rp_u8_add rfl a14 (1 : UInt8) rfl rfl) ?_; simp only [N]
    refine wmv (bv (a14 + (1 : UInt8))) ?_; simp only [N]
    refine wpList_nil ?_
    show ∃ n', n' < _ ∧ _
    refine ⟨_, ?_, (a14 + (1 : UInt8)), arow1, avrow1, na, (by kernel_rfl), H, (by have hs1 := u8_succ hc1; first | omega | (simp only [List.length_append, List.length_cons, List.length_nil]; omega)), (by have hs1 := u8_succ hc1; omega), (hFa.trans ((bt hc1).trans ((bf hc2).trans (bf hc3)))).trans (congrFun hra _), rfl⟩
    have hs1 := u8_succ hc1; omega
 · --F 1
  have hc1N31 : (s.getD (138 + t) 0).toNat ≤ a14.toNat := u8_ge hc1
  have hu2 := UInt8.toNat_lt a14
  refine wp_exit ?_
  refine wsr ?_
  refine wmv avrow1 ?_; simp only [N]
  refine wasg avrow1 ?_; simp only [N]
  refine wpList_nil ?_
  refine wp_ret ?_
  try simp only [Exit.inBlock, Exit.then, cutP]
  refine bodyPost_ret (results1 rfl (rv_tmp rfl)) rfl ?_
  obtain ⟨sl1, hsv1, hsf1⟩ := fresh_row H 0 rfl arow1 rfl rfl Pass.cells_n (by first | omega | (simp only [List.length_append, List.length_cons, List.length_nil]; omega))
  subst hsv1
  have hF : (drainsF mach s t) = arow1 := hFa.trans (bf hc1)
  rw [hF]
  exact ⟨sl1, rfl, H.ext, hsf1⟩

def keepF_a (mach : UInt8) (s : List UInt8) (t : UInt8) (x : List UInt8) (ra : Nat → (List UInt8)) : Nat → (List UInt8) := fun s_ => match s_ with | a11 => bif (((mach == (3 : UInt8)) && (decide ((0 : Int) < (a11 : Int)))) && (decide ((x.getD 0 0) < (s.getD (42 + t.toNat * 24 + ((a11 : Int) - (1 : Int)).toNat * 2) 0)))) then (ra (a11 - 1)) else (((s.take (42 + t.toNat * 24 + (a11 + 1) * 2) ++ (s.drop (42 + t.toNat * 24 + a11 * 2)).take ((((s.getD (138 + t.toNat) 0).toNat) - a11) * 2) ++ s.drop ((42 + t.toNat * 24 + (a11 + 1) * 2) + (((s.getD (138 + t.toNat) 0).toNat) - a11) * 2)).take (42 + t.toNat * 24 + a11 * 2) ++ x ++ (s.take (42 + t.toNat * 24 + (a11 + 1) * 2) ++ (s.drop (42 + t.toNat * 24 + a11 * 2)).take ((((s.getD (138 + t.toNat) 0).toNat) - a11) * 2) ++ s.drop ((42 + t.toNat * 24 + (a11 + 1) * 2) + (((s.getD (138 + t.toNat) 0).toNat) - a11) * 2)).drop (42 + t.toNat * 24 + a11 * 2 + x.length)).set (138 + t.toNat) ((((s.take (42 + t.toNat * 24 + (a11 + 1) * 2) ++ (s.drop (42 + t.toNat * 24 + a11 * 2)).take ((((s.getD (138 + t.toNat) 0).toNat) - a11) * 2) ++ s.drop ((42 + t.toNat * 24 + (a11 + 1) * 2) + (((s.getD (138 + t.toNat) 0).toNat) - a11) * 2)).take (42 + t.toNat * 24 + a11 * 2) ++ x ++ (s.take (42 + t.toNat * 24 + (a11 + 1) * 2) ++ (s.drop (42 + t.toNat * 24 + a11 * 2)).take ((((s.getD (138 + t.toNat) 0).toNat) - a11) * 2) ++ s.drop ((42 + t.toNat * 24 + (a11 + 1) * 2) + (((s.getD (138 + t.toNat) 0).toNat) - a11) * 2)).drop (42 + t.toNat * 24 + a11 * 2 + x.length)).getD (138 + t.toNat) 0) + (1 : UInt8)))
def keepF (mach : UInt8) (s : List UInt8) (t : UInt8) (x : List UInt8) : (List UInt8) :=
  loopF (keepF_a mach s t x) 13 ((s.getD (138 + t.toNat) 0).toNat)
def stL (S : List UInt8) (t i : Nat) : UInt8 := S.getD (42 + t * 24 + i * 2) 0
def stV (S : List UInt8) (t i : Nat) : UInt8 := S.getD (42 + t * 24 + i * 2 + 1) 0
def keepPos (mach : UInt8) (S : List UInt8) (t : Nat) (loc : UInt8) : Nat → Nat
  | 0 => 0
  | n + 1 => if (mach == 3 && decide (loc < stL S t n)) = true then keepPos mach S t loc n else n + 1
theorem keepPos_le (mach : UInt8) (S : List UInt8) (t : Nat) (loc : UInt8) : ∀ n, keepPos mach S t loc n ≤ n
  | 0 => Nat.le_refl _
  | n + 1 => by
    unfold keepPos
    split
    · have := keepPos_le mach S t loc n; omega
    · exact Nat.le_refl _
def keepAt (S : List UInt8) (t : Nat) (x : List UInt8) (m at' : Nat) : List UInt8 :=
  let S1 := S.take (42 + t * 24 + (at' + 1) * 2) ++ (S.drop (42 + t * 24 + at' * 2)).take ((m - at') * 2) ++ S.drop ((42 + t * 24 + (at' + 1) * 2) + (m - at') * 2)
  let S2 := S1.take (42 + t * 24 + at' * 2) ++ x ++ S1.drop (42 + t * 24 + at' * 2 + x.length)
  S2.set (138 + t) (S2.getD (138 + t) 0 + 1)
theorem keep_go (mach : UInt8) (S : List UInt8) (t : UInt8) (x : List UInt8) : ∀ (f n : Nat), n < f → loopF (keepF_a mach S t x) f n = keepAt S t.toNat x (S.getD (138 + t.toNat) 0).toNat (keepPos mach S t.toNat (x.getD 0 0) n)
  | 0, n, h => by omega
  | f + 1, 0, h => by
    show keepF_a mach S t x (loopF (keepF_a mach S t x) f) 0 = _
    unfold keepF_a
    simp only
    rw [show ((mach == (3 : UInt8)) && decide ((0 : Int) < ((0 : Nat) : Int))) = false by simp]
    rfl
  | f + 1, n + 1, h => by
    show keepF_a mach S t x (loopF (keepF_a mach S t x) f) (n + 1) = _
    unfold keepF_a
    simp only
    rw [decide_eq_true (show (0 : Int) < ((n + 1 : Nat) : Int) by omega), Bool.and_true, show (((n + 1 : Nat) : Int) - (1 : Int)).toNat = n by omega]
    unfold keepPos
    change (bif (mach == 3 && decide (x.getD 0 0 < stL S t.toNat n)) then _ else _) = _
    cases hc : (mach == 3 && decide (x.getD 0 0 < stL S t.toNat n))
    · simp only [cond_false, Bool.false_eq_true, if_false]
      rfl
    · simp only [cond_true, if_true]
      rw [show n + 1 - 1 = n by omega]
      exact keep_go mach S t x f n (by omega)
theorem keep_eq {mach : UInt8} {S : List UInt8} {t : UInt8} {x : List UInt8} (hm : (S.getD (138 + t.toNat) 0).toNat < 12) : keepF mach S t x = keepAt S t.toNat x (S.getD (138 + t.toNat) 0).toNat (keepPos mach S t.toNat (x.getD 0 0) (S.getD (138 + t.toNat) 0).toNat) :=
  keep_go mach S t x 13 _ (by omega)
theorem keepAt_len {S : List UInt8} {t : Nat} {x : List UInt8} {m at' : Nat} (hS : S.length = 142) (hx : x.length = 2) (ht : t < 4) (hm : m < 12) (ha : at' ≤ m) : (keepAt S t x m at').length = 142 := by
  unfold keepAt
  simp only [List.length_set, List.length_append, List.length_take, List.length_drop]
  omega

@[simp] theorem keepF_len (mach : UInt8) (s : List UInt8) (t : UInt8) (x : List UInt8) (hs : s.length = 142) (hx : x.length = 2) (ht : t.toNat < 4) (hm : (s.getD (138 + t.toNat) 0).toNat < 12) : (keepF mach s t x).length = 142 := by
  rw [keep_eq hm]; exact keepAt_len hs hx ht hm (keepPos_le _ _ _ _ _)

theorem keepF_spec (mach : UInt8) (s : List UInt8) (t : UInt8) (x : List UInt8) (hs : s.length = 142) (hx : x.length = 2) (ht : t.toNat < 4) (hm : (s.getD (138 + t.toNat) 0).toNat < 12) (w : World) :
    Calls Tryz.prog 82 #[bv mach, .agg (enc s).toArray, bv t, .agg (enc x).toArray] w fun e w' => e = .returned (.agg (enc (keepF mach s t x)).toArray) ∧ Ext w w' := by
 have H := Own.start w
 go_enter Tryz.func82, Tryz.ntmps82
 refine wsr ?_
 refine wl_box H rfl rfl (v := .agg (enc s).toArray) rfl ?_
 clear H; intro b1 w1 hnb1 H; dsimp only [Value.cells] at H
 simp only [N]
 refine wl_box H rfl rfl (v := .agg (enc x).toArray) rfl ?_
 clear H; intro b2 w2 hnb2 H; dsimp only [Value.cells] at H
 simp only [N]
 refine wl_alloc H rfl rfl zv41 ?_
 clear H; intro b3 w3 hnb3 H; dsimp only [Value.cells] at H
 simp only [N]
 simp only [enc_replicate] at H
 refine wpList_nil ?_
 refine wp_seq ?_; refine wp_region_own H (by kernel_rfl) (by kernel_rfl) ?_
 refine wq_run rfl (fun w H => rp_move rfl (v := bv t) rfl) ?_; simp only [N]
 refine wq_run rfl (fun w H => rp_fieldAddr rfl Tryz.underlying41 rfl 42 rfl sz38 rfl 42 rfl) ?_; simp only [N]
 refine wq_run rfl (fun w H => rp_indexAddr_arr rfl Tryz.underlying38 sz37 rfl t.toNat rfl (by omega) (42 + t.toNat * 24) (by omega)) ?_; simp only [N]
 refine wq_run rfl (fun w H => rp_move rfl (v := bv t) rfl) ?_; simp only [N]
 refine wq_run rfl (fun w H => rp_fieldAddr rfl Tryz.underlying41 rfl 138 rfl sz39 rfl 138 rfl) ?_; simp only [N]
 refine wq_run rfl (fun w H => rp_indexAddr_arr rfl Tryz.underlying39 sz5 rfl t.toNat rfl (by omega) (138 + t.toNat) (by omega)) ?_; simp only [N]
 refine wq_run rfl (fun w H => rp_load1e H 2 rfl rfl rfl Tryz.underlying5 rfl (138 + t.toNat) rfl (by first | omega | (simp only [enc_length, List.size_toArray, List.length_set, List.length_append, List.length_take, List.length_drop, List.length_replicate]; omega) | (simp [-List.reduceReplicate]; done) | (simp [-List.reduceReplicate]; omega) | (simp [*, -List.reduceReplicate]; done) | (simp [*, -List.reduceReplicate]; omega))) ?_; simp only [N]
 refine wq_run rfl (fun w H => rp_u8_to_int rfl Tryz.underlying5 Tryz.underlying3 (s.getD (138 + t.toNat) 0) rfl) ?_; simp only [N]
 refine wq_run rfl (fun w H => rp_assign rfl (v := .pointer (some ⟨b1, 42 + t.toNat * 24, none⟩)) rfl) ?_; simp only [N]
 refine wq_run rfl (fun w H => rp_assign rfl (v := iv ((s.getD (138 + t.toNat) 0).toNat : Int)) rfl) ?_; simp only [N]
 refine wq_nil ?_
 clear H; intro w4 H
 refine wsr ?_
 refine wmv (iv ((s.getD (138 + t.toNat) 0).toNat : Int)) ?_; simp only [N]
 refine wasg (iv ((s.getD (138 + t.toNat) 0).toNat : Int)) ?_; simp only [N]
 refine wpList_nil ?_
 refine wp_seq ?_; refine wp_block ?_
 refine wp_loopX (fun m' a' w' => ∃ (a11 : Nat) (na : Nat), a' = ⟨#[bv mach, (tq a' 1), bv t, (tq a' 3), uU, .pointer (some ⟨b1, 0, none⟩), uU, .pointer (some ⟨b2, 0, none⟩), .pointer (some ⟨b3, 0, none⟩), .pointer (some ⟨b1, 42 + t.toNat * 24, none⟩), iv ((s.getD (138 + t.toNat) 0).toNat : Int), iv (a11 : Int), bv t, (tq a' 13), (tq a' 14), bv t, (tq a' 16), (tq a' 17), (tq a' 18), (tq a' 19), (tq a' 20), (tq a' 21), (tq a' 22), (tq a' 23), (tq a' 24), (tq a' 25), (tq a' 26), (tq a' 27), (tq a' 28), (tq a' 29), (tq a' 30), (tq a' 31), (tq a' 32), (tq a' 33), (tq a' 34), (tq a' 35), (tq a' 36), (tq a' 37), (tq a' 38), (tq a' 39), (tq a' 40), uU, uU, uU, uU, uU, uU, uU, uU, uU, uU, uU, uU, uU, uU, uU, uU, uU, uU, uU, uU, uU, uU, uU, uU, uU, uU], []⟩ ∧ Own w [] [] [.blk b3 (.cells (enc (List.replicate 142 (0 : UInt8))).toArray 41 (0, 0)), .blk b2 (.cells (enc x).toArray 36 (0, 0)), .blk b1 (.cells (enc s).toArray 41 (0, 0))] w' ∧ (a11 ≤ (s.getD (138 + t.toNat) 0).toNat) ∧ 0 + a11 < na ∧ (keepF mach s t x) = loopF (keepF_a mach s t x) na a11 ∧ m' = 0 + a11) _ ⟨(s.getD (138 + t.toNat) 0).toNat, 13, (by kernel_rfl), H, (by omega), (by omega), rfl, rfl⟩ ?_
 clear H
 rintro _ a_ w5 ⟨a11, na, ha_, H, hia0, hma, hFa, rfl⟩
 obtain ⟨ua, hu_⟩ : ∃ u : Nat → Value, ∀ n, tq a_ n = u n := ⟨_, fun _ => rfl⟩
 try simp only [hu_] at ha_
 clear hu_; subst ha_
 obtain ⟨na, rfl⟩ : ∃ q, na = q + 1 := ⟨na - 1, by omega⟩
 obtain ⟨ra, hra⟩ : ∃ r, r = loopF (keepF_a mach s t x) na := ⟨_, rfl⟩
 have hFa : (keepF mach s t x) = keepF_a mach s t x ra a11 := hFa.trans (by rw [hra]; rfl)
 refine wp_seq ?_; refine wp_seq ?_; refine wp_region_own H (by kernel_rfl) (by kernel_rfl) ?_
 refine wq_run rfl (fun w H => rp_move rfl (v := bv mach) rfl) ?_; simp only [N]
 refine wq_run rfl (fun w H => rp_u8_eql rfl mach (3 : UInt8) rfl rfl) ?_; simp only [N]
 refine wq_run rfl (fun w H => rp_move rfl (v := .bool (mach == (3 : UInt8))) rfl) ?_; simp only [N]
 refine wq_g (wn_t rfl rfl) (v := iv (a11 : Int)) (fun hg w H => rp_move rfl (v := iv (a11 : Int)) rfl) ?_; simp only [N]
 refine wq_g (wn_t rfl rfl) (v := .bool (decide ((0 : Int) < (a11 : Int)))) (fun hg w H => by have x2 : mach.toNat = 3 := u8_eq hg; exact (by simp only [gv_t hg]; exact rp_int_gtr rfl (a11 : Int) (0 : Int) rfl rfl)) ?_; simp only [N]
 refine wq_run rfl (fun w H => rp_pickA rfl (p := (mach == (3 : UInt8))) (q := (decide ((0 : Int) < (a11 : Int)))) rfl rfl rfl) ?_; simp only [N]
 refine wq_run rfl (fun w H => rp_move rfl (v := .bool ((mach == (3 : UInt8)) && (decide ((0 : Int) < (a11 : Int))))) rfl) ?_; simp only [N]
 refine wq_g (wn_t rfl rfl) (v := .pointer (some ⟨b1, 42 + t.toNat * 24, none⟩)) (fun hg w H => rp_move rfl (v := .pointer (some ⟨b1, 42 + t.toNat * 24, none⟩)) rfl) ?_; simp only [N]
 refine wq_g (wn_t rfl rfl) (v := iv (a11 : Int)) (fun hg w H => rp_move rfl (v := iv (a11 : Int)) rfl) ?_; simp only [N]
 refine wq_g (wn_t rfl rfl) (v := iv ((a11 : Int) - (1 : Int))) (fun hg w H => by have x7 : mach.toNat = 3 := u8_eq (andl hg); have x8 : (0 : Int) < (a11 : Int) := (by simpa using (andr hg)); exact (by simp only [gv_t hg]; exact rp_int_sub rfl (a11 : Int) (1 : Int) rfl rfl (by omega))) ?_; simp only [N]
 refine wq_g (wn_t rfl rfl) (v := .pointer (some ⟨b1, 42 + t.toNat * 24, none⟩)) (fun hg w H => by have x9 : mach.toNat = 3 := u8_eq (andl hg); have x10 : (0 : Int) < (a11 : Int) := (by simpa using (andr hg)); exact (by simp only [gv_t hg]; exact rp_nilCheck rfl rfl)) ?_; simp only [N]
 refine wq_g (wn_t rfl rfl) (v := .pointer (some ⟨b1, 42 + t.toNat * 24 + ((a11 : Int) - (1 : Int)).toNat * 2, none⟩)) (fun hg w H => by have x11 : mach.toNat = 3 := u8_eq (andl hg); have x12 : (0 : Int) < (a11 : Int) := (by simpa using (andr hg)); exact (by simp only [gv_t hg]; exact rp_indexAddr_arrI rfl Tryz.underlying37 sz36 rfl ((a11 : Int) - (1 : Int)) (by omega) rfl (by omega) (42 + t.toNat * 24 + ((a11 : Int) - (1 : Int)).toNat * 2) (by omega))) ?_; simp only [N]
 refine wq_g (wn_t rfl rfl) (v := .pointer (some ⟨b1, 42 + t.toNat * 24 + ((a11 : Int) - (1 : Int)).toNat * 2, none⟩)) (fun hg w H => by have x13 : mach.toNat = 3 := u8_eq (andl hg); have x14 : (0 : Int) < (a11 : Int) := (by simpa using (andr hg)); exact (by simp only [gv_t hg]; exact rp_fieldAddr rfl Tryz.underlying36 rfl 0 rfl sz5 rfl (42 + t.toNat * 24 + ((a11 : Int) - (1 : Int)).toNat * 2) (by omega))) ?_; simp only [N]
 refine wq_g (wn_t rfl rfl) (v := bv (s.getD (42 + t.toNat * 24 + ((a11 : Int) - (1 : Int)).toNat * 2) 0)) (fun hg w H => by have x15 : mach.toNat = 3 := u8_eq (andl hg); have x16 : (0 : Int) < (a11 : Int) := (by simpa using (andr hg)); exact (by simp only [gv_t hg]; exact rp_load1e H 2 rfl rfl rfl Tryz.underlying5 rfl (42 + t.toNat * 24 + ((a11 : Int) - (1 : Int)).toNat * 2) rfl (by first | omega | (simp only [enc_length, List.size_toArray, List.length_set, List.length_append, List.length_take, List.length_drop, List.length_replicate]; omega) | (simp [-List.reduceReplicate]; done) | (simp [-List.reduceReplicate]; omega) | (simp [*, -List.reduceReplicate]; done) | (simp [*, -List.reduceReplicate]; omega)))) ?_; simp only [N]
 refine wq_g (wn_t rfl rfl) (v := .pointer (some ⟨b2, 0, none⟩)) (fun hg w H => rp_fieldAddr rfl Tryz.underlying36 rfl 0 rfl sz5 rfl 0 rfl) ?_; simp only [N]
 refine wq_g (wn_t rfl rfl) (v := bv (x.getD 0 0)) (fun hg w H => by have x19 : mach.toNat = 3 := u8_eq (andl hg); have x20 : (0 : Int) < (a11 : Int) := (by simpa using (andr hg)); exact (by simp only [gv_t hg]; exact rp_load1e H 1 rfl rfl rfl Tryz.underlying5 rfl 0 rfl (by first | omega | (simp only [enc_length, List.size_toArray, List.length_set, List.length_append, List.length_take, List.length_drop, List.length_replicate]; omega) | (simp [-List.reduceReplicate]; done) | (simp [-List.reduceReplicate]; omega) | (simp [*, -List.reduceReplicate]; done) | (simp [*, -List.reduceReplicate]; omega)))) ?_; simp only [N]
 refine wq_g (wn_t rfl rfl) (v := .bool (decide ((x.getD 0 0) < (s.getD (42 + t.toNat * 24 + ((a11 : Int) - (1 : Int)).toNat * 2) 0)))) (fun hg w H => by have x21 : mach.toNat = 3 := u8_eq (andl hg); have x22 : (0 : Int) < (a11 : Int) := (by simpa using (andr hg)); exact (by simp only [gv_t hg]; exact rp_u8_gtr rfl (s.getD (42 + t.toNat * 24 + ((a11 : Int) - (1 : Int)).toNat * 2) 0) (x.getD 0 0) rfl rfl)) ?_; simp only [N]
 refine wq_run rfl (fun w H => rp_pickA rfl (p := ((mach == (3 : UInt8)) && (decide ((0 : Int) < (a11 : Int))))) (q := (decide ((x.getD 0 0) < (s.getD (42 + t.toNat * 24 + ((a11 : Int) - (1 : Int)).toNat * 2) 0)))) rfl rfl rfl) ?_; simp only [N]
 refine wq_nil ?_
 clear H; intro w6 H
 refine wp_cond_split rfl (fun hc1 => ?_) (fun hc1 => ?_)
 · --T 1
  have hc1N23 : mach.toNat = 3 := u8_eq (andl (andl hc1))
  have hc1N24 : (0 : Int) < (a11 : Int) := (by simpa using (andr (andl hc1)))
  have hc1N25 : (x.getD 0 0).toNat < (s.getD (42 + t.toNat * 24 + ((a11 : Int) - (1 : Int)).toNat * 2) 0).toNat := u8_lt (andr hc1)
  refine wp_skip ?_
  refine wp_block ?_
  refine wp_region_lit ?_; refine wmv (iv (a11 : Int)) ?_; simp only [N]
  refine wr (rp_int_subN rfl a11 1 rfl rfl (by omega)) ?_; simp only [N]
  refine wasg (iv (((a11 - 1) : Nat) : Int)) ?_; simp only [N]
  refine wpList_nil ?_
  show ∃ n', n' < _ ∧ _
  refine ⟨_, ?_, (a11 - 1), na, (by kernel_rfl), H, (by omega), (by omega), (hFa.trans (bt hc1)).trans (congrFun hra _), rfl⟩
  omega
 · --F 1
  refine wp_exit ?_
  refine wp_seq ?_; refine wp_region_mix 12 H (by kernel_rfl) ?_
  refine wxl_tk 0 rfl (xy_run rfl (fun w H => rp_move rfl (v := .pointer (some ⟨b1, 42 + t.toNat * 24, none⟩)) rfl)) ?_; simp only [N]
  refine wxl_tk 1 rfl (xy_run rfl (fun w H => rp_nilCheck rfl rfl)) ?_; simp only [N]
  refine wxl_tk 2 rfl (xy_run rfl (fun w H => rp_move rfl (v := iv (a11 : Int)) rfl)) ?_; simp only [N]
  refine wxl_tk 3 rfl (xy_run rfl (fun w H => rp_int_add rfl (a11 : Int) (1 : Int) rfl rfl (by omega))) ?_; simp only [N]
  refine wxl_tk 4 rfl (xy_run rfl (fun w H => rp_move rfl (v := iv ((s.getD (138 + t.toNat) 0).toNat : Int)) rfl)) ?_; simp only [N]
  refine wxl_tk 5 rfl (xy_run rfl (fun w H => rp_int_add rfl ((s.getD (138 + t.toNat) 0).toNat : Int) (1 : Int) rfl rfl (by omega))) ?_; simp only [N]
  refine wxl_tk 6 rfl (xy_run rfl (fun w H => rp_slice_arr_lh rfl Tryz.underlying37 sz36 rfl (a11 + 1) ((s.getD (138 + t.toNat) 0).toNat + 1) rfl rfl (by omega))) ?_; simp only [N]
  refine wxl_tk 7 rfl (xy_run rfl (fun w H => rp_move rfl (v := .pointer (some ⟨b1, 42 + t.toNat * 24, none⟩)) rfl)) ?_; simp only [N]
  refine wxl_tk 8 rfl (xy_run rfl (fun w H => rp_nilCheck rfl rfl)) ?_; simp only [N]
  refine wxl_tk 9 rfl (xy_run rfl (fun w H => rp_move rfl (v := iv (a11 : Int)) rfl)) ?_; simp only [N]
  refine wxl_tk 10 rfl (xy_run rfl (fun w H => rp_move rfl (v := iv ((s.getD (138 + t.toNat) 0).toNat : Int)) rfl)) ?_; simp only [N]
  refine wxl_tk 11 rfl (xy_run rfl (fun w H => rp_slice_arr_lh rfl Tryz.underlying37 sz36 rfl a11 ((s.getD (138 + t.toNat) 0).toNat) rfl rfl (by omega))) ?_; simp only [N]
  refine wpX_tail (n := 0) _ rfl rfl (by kernel_rfl) ?_
  clear H; intro w7 H; simp only [List.cons_append, List.nil_append] at H
  refine wl_copySS H 2 rfl Tryz.underlying68 sz36 rfl (off := 42 + t.toNat * 24) (lo := (a11 + 1)) (len := 12) rfl (off' := 42 + t.toNat * 24) (lo' := a11) (len' := 12) rfl (((s.getD (138 + t.toNat) 0).toNat) - a11) (by omega) (by omega) (by refine ⟨?_, ?_, ?_, ?_⟩ <;> first | omega | (simp only [List.length_set, List.length_append, List.length_take, List.length_drop, List.length_replicate]; omega) | (simp; omega)) ?_
  clear H; intro w8 H; simp only [M] at H
  simp only [N]
  refine wpList_nil ?_
  refine wp_seq ?_; refine wp_region_mix 5 H (by kernel_rfl) ?_
  refine wxl_tk 0 rfl (xy_run rfl (fun w H => rp_move rfl (v := .pointer (some ⟨b1, 42 + t.toNat * 24, none⟩)) rfl)) ?_; simp only [N]
  refine wxl_tk 1 rfl (xy_run rfl (fun w H => rp_move rfl (v := iv (a11 : Int)) rfl)) ?_; simp only [N]
  refine wxl_tk 2 rfl (xy_run rfl (fun w H => rp_loadWe H 1 rfl rfl rfl Tryz.underlying36 rfl (by first | exact sz36 | (rw [sz36]; congr 1; first | omega | (simp only [enc_length, List.size_toArray, List.length_set, List.length_append, List.length_take, List.length_drop, List.length_replicate]; omega) | (simp [-List.reduceReplicate]; done) | (simp [-List.reduceReplicate]; omega) | (simp [*, -List.reduceReplicate]; done) | (simp [*, -List.reduceReplicate]; omega))) rfl)) ?_; simp only [N]
  refine wxl_tk 3 rfl (xy_run rfl (fun w H => rp_nilCheck rfl rfl)) ?_; simp only [N]
  refine wxl_tk 4 rfl (xy_run rfl (fun w H => rp_indexAddr_arr rfl Tryz.underlying37 sz36 rfl a11 rfl (by omega) (42 + t.toNat * 24 + a11 * 2) (by omega))) ?_; simp only [N]
  refine wpX_tail (n := 0) _ rfl rfl (by kernel_rfl) ?_
  clear H; intro w9 H; simp only [List.cons_append, List.nil_append] at H
  refine wl_storeNe H 2 rfl rfl rfl rfl x rfl (by first | exact sz36 | (rw [sz36]; congr 1; first | omega | (simp only [enc_length, List.size_toArray, List.length_set, List.length_append, List.length_take, List.length_drop, List.length_replicate]; omega) | (simp [-List.reduceReplicate]; done) | (simp [-List.reduceReplicate]; omega) | (simp [*, -List.reduceReplicate]; done) | (simp [*, -List.reduceReplicate]; omega))) (42 + t.toNat * 24 + a11 * 2) rfl (by first | omega | (simp only [enc_length, List.size_toArray, List.length_set, List.length_append, List.length_take, List.length_drop, List.length_replicate]; omega) | (simp [-List.reduceReplicate]; done) | (simp [-List.reduceReplicate]; omega) | (simp [*, -List.reduceReplicate]; done) | (simp [*, -List.reduceReplicate]; omega)) ?_
  clear H; intro w10 H; simp only [M] at H
  simp only [N]
  refine wnr ?_
  refine wmv (bv t) ?_; simp only [N]
  refine wr (rp_fieldAddr rfl Tryz.underlying41 rfl 138 rfl sz39 rfl 138 rfl) ?_; simp only [N]
  refine wr (rp_indexAddr_arr rfl Tryz.underlying39 sz5 rfl t.toNat rfl (by omega) (138 + t.toNat) (by omega)) ?_; simp only [N]
  refine wr (rp_load1e H 2 rfl rfl rfl Tryz.underlying5 rfl (138 + t.toNat) rfl (by first | omega | (simp only [enc_length, List.size_toArray, List.length_set, List.length_append, List.length_take, List.length_drop, List.length_replicate]; omega) | (simp [-List.reduceReplicate]; done) | (simp [-List.reduceReplicate]; omega) | (simp [*, -List.reduceReplicate]; done) | (simp [*, -List.reduceReplicate]; omega))) ?_; simp only [N]
  refine wr (rp_u8_add rfl (((s.take (42 + t.toNat * 24 + (a11 + 1) * 2) ++ (s.drop (42 + t.toNat * 24 + a11 * 2)).take ((((s.getD (138 + t.toNat) 0).toNat) - a11) * 2) ++ s.drop ((42 + t.toNat * 24 + (a11 + 1) * 2) + (((s.getD (138 + t.toNat) 0).toNat) - a11) * 2)).take (42 + t.toNat * 24 + a11 * 2) ++ x ++ (s.take (42 + t.toNat * 24 + (a11 + 1) * 2) ++ (s.drop (42 + t.toNat * 24 + a11 * 2)).take ((((s.getD (138 + t.toNat) 0).toNat) - a11) * 2) ++ s.drop ((42 + t.toNat * 24 + (a11 + 1) * 2) + (((s.getD (138 + t.toNat) 0).toNat) - a11) * 2)).drop (42 + t.toNat * 24 + a11 * 2 + x.length)).getD (138 + t.toNat) 0) (1 : UInt8) rfl rfl) ?_; simp only [N]
  refine wr (rp_fieldAddr rfl Tryz.underlying41 rfl 138 rfl sz39 rfl 138 rfl) ?_; simp only [N]
  refine wr (rp_indexAddr_arr rfl Tryz.underlying39 sz5 rfl t.toNat rfl (by omega) (138 + t.toNat) (by omega)) ?_; simp only [N]
  refine wl_store1e H 2 rfl rfl rfl rfl ((((s.take (42 + t.toNat * 24 + (a11 + 1) * 2) ++ (s.drop (42 + t.toNat * 24 + a11 * 2)).take ((((s.getD (138 + t.toNat) 0).toNat) - a11) * 2) ++ s.drop ((42 + t.toNat * 24 + (a11 + 1) * 2) + (((s.getD (138 + t.toNat) 0).toNat) - a11) * 2)).take (42 + t.toNat * 24 + a11 * 2) ++ x ++ (s.take (42 + t.toNat * 24 + (a11 + 1) * 2) ++ (s.drop (42 + t.toNat * 24 + a11 * 2)).take ((((s.getD (138 + t.toNat) 0).toNat) - a11) * 2) ++ s.drop ((42 + t.toNat * 24 + (a11 + 1) * 2) + (((s.getD (138 + t.toNat) 0).toNat) - a11) * 2)).drop (42 + t.toNat * 24 + a11 * 2 + x.length)).getD (138 + t.toNat) 0) + (1 : UInt8)) rfl sz5 (138 + t.toNat) rfl (by first | omega | (simp only [enc_length, List.size_toArray, List.length_set, List.length_append, List.length_take, List.length_drop, List.length_replicate]; omega) | (simp [-List.reduceReplicate]; done) | (simp [-List.reduceReplicate]; omega) | (simp [*, -List.reduceReplicate]; done) | (simp [*, -List.reduceReplicate]; omega)) ?_
  clear H; intro w11 H; simp only [M] at H
  simp only [N]
  refine wnr ?_
  refine wr (rp_loadWe H 2 rfl rfl rfl Tryz.underlying41 rfl (by first | exact sz41 | (rw [sz41]; congr 1; first | omega | (simp only [enc_length, List.size_toArray, List.length_set, List.length_append, List.length_take, List.length_drop, List.length_replicate]; omega) | (simp [-List.reduceReplicate]; done) | (simp [-List.reduceReplicate]; omega) | (simp [*, -List.reduceReplicate]; done) | (simp [*, -List.reduceReplicate]; omega))) rfl) ?_; simp only [N]
  refine wl_storeW H 0 rfl rfl rfl rfl (vs := (enc (((s.take (42 + t.toNat * 24 + (a11 + 1) * 2) ++ (s.drop (42 + t.toNat * 24 + a11 * 2)).take ((((s.getD (138 + t.toNat) 0).toNat) - a11) * 2) ++ s.drop ((42 + t.toNat * 24 + (a11 + 1) * 2) + (((s.getD (138 + t.toNat) 0).toNat) - a11) * 2)).take (42 + t.toNat * 24 + a11 * 2) ++ x ++ (s.take (42 + t.toNat * 24 + (a11 + 1) * 2) ++ (s.drop (42 + t.toNat * 24 + a11 * 2)).take ((((s.getD (138 + t.toNat) 0).toNat) - a11) * 2) ++ s.drop ((42 + t.toNat * 24 + (a11 + 1) * 2) + (((s.getD (138 + t.toNat) 0).toNat) - a11) * 2)).drop (42 + t.toNat * 24 + a11 * 2 + x.length)).set (138 + t.toNat) ((((s.take (42 + t.toNat * 24 + (a11 + 1) * 2) ++ (s.drop (42 + t.toNat * 24 + a11 * 2)).take ((((s.getD (138 + t.toNat) 0).toNat) - a11) * 2) ++ s.drop ((42 + t.toNat * 24 + (a11 + 1) * 2) + (((s.getD (138 + t.toNat) 0).toNat) - a11) * 2)).take (42 + t.toNat * 24 + a11 * 2) ++ x ++ (s.take (42 + t.toNat * 24 + (a11 + 1) * 2) ++ (s.drop (42 + t.toNat * 24 + a11 * 2)).take ((((s.getD (138 + t.toNat) 0).toNat) - a11) * 2) ++ s.drop ((42 + t.toNat * 24 + (a11 + 1) * 2) + (((s.getD (138 + t.toNat) 0).toNat) - a11) * 2)).drop (42 + t.toNat * 24 + a11 * 2 + x.length)).getD (138 + t.toNat) 0) + (1 : UInt8)))).toArray) rfl (fun v hv => enc_one v (by simpa using hv)) (by first | (rw [sz41]; congr 1; done) | (rw [sz41]; congr 1; first | omega | (simp only [enc_length, List.size_toArray, List.length_set, List.length_append, List.length_take, List.length_drop, List.length_replicate]; omega) | (simp [-List.reduceReplicate]; done) | (simp [-List.reduceReplicate]; omega) | (simp [*, -List.reduceReplicate]; done) | (simp [*, -List.reduceReplicate]; omega))) (by first | omega | (simp only [enc_length, List.size_toArray, List.length_set, List.length_append, List.length_take, List.length_drop, List.length_replicate]; omega) | (simp [-List.reduceReplicate]; done) | (simp [-List.reduceReplicate]; omega) | (simp [*, -List.reduceReplicate]; done) | (simp [*, -List.reduceReplicate]; omega)) ?_
  clear H; intro w12 H; simp only [M] at H
  simp only [N]
  refine wpList_nil ?_
  refine wp_ret ?_
  try simp only [Exit.inBlock, Exit.then, cutP]
  refine bodyPost_ret (results1 rfl (rv_agg H 0 rfl rfl Tryz.underlying41 rfl (by first | exact sz41 | (rw [sz41]; congr 1; first | omega | (simp only [enc_length, List.size_toArray, List.length_set, List.length_append, List.length_take, List.length_drop, List.length_replicate]; omega) | (simp [-List.reduceReplicate]; done) | (simp [-List.reduceReplicate]; omega) | (simp [*, -List.reduceReplicate]; done) | (simp [*, -List.reduceReplicate]; omega))))) rfl ?_
  have hF : (keepF mach s t x) = (((s.take (42 + t.toNat * 24 + (a11 + 1) * 2) ++ (s.drop (42 + t.toNat * 24 + a11 * 2)).take ((((s.getD (138 + t.toNat) 0).toNat) - a11) * 2) ++ s.drop ((42 + t.toNat * 24 + (a11 + 1) * 2) + (((s.getD (138 + t.toNat) 0).toNat) - a11) * 2)).take (42 + t.toNat * 24 + a11 * 2) ++ x ++ (s.take (42 + t.toNat * 24 + (a11 + 1) * 2) ++ (s.drop (42 + t.toNat * 24 + a11 * 2)).take ((((s.getD (138 + t.toNat) 0).toNat) - a11) * 2) ++ s.drop ((42 + t.toNat * 24 + (a11 + 1) * 2) + (((s.getD (138 + t.toNat) 0).toNat) - a11) * 2)).drop (42 + t.toNat * 24 + a11 * 2 + x.length)).set (138 + t.toNat) ((((s.take (42 + t.toNat * 24 + (a11 + 1) * 2) ++ (s.drop (42 + t.toNat * 24 + a11 * 2)).take ((((s.getD (138 + t.toNat) 0).toNat) - a11) * 2) ++ s.drop ((42 + t.toNat * 24 + (a11 + 1) * 2) + (((s.getD (138 + t.toNat) 0).toNat) - a11) * 2)).take (42 + t.toNat * 24 + a11 * 2) ++ x ++ (s.take (42 + t.toNat * 24 + (a11 + 1) * 2) ++ (s.drop (42 + t.toNat * 24 + a11 * 2)).take ((((s.getD (138 + t.toNat) 0).toNat) - a11) * 2) ++ s.drop ((42 + t.toNat * 24 + (a11 + 1) * 2) + (((s.getD (138 + t.toNat) 0).toNat) - a11) * 2)).drop (42 + t.toNat * 24 + a11 * 2 + x.length)).getD (138 + t.toNat) 0) + (1 : UInt8))) := hFa.trans (bf hc1)
  rw [hF]
  exact ⟨rfl, H.ext⟩

def drainF_a (mach : UInt8) (s : List UInt8) (x : Pass) (ra : Nat → (List UInt8)) : Nat → (List UInt8) := fun s_ => match s_ with | a9 => bif ((mach == (3 : UInt8)) && ((s.getD (42 + (x.thread).toNat * 24 + a9 * 2) 0) != x.loc)) then (ra (a9 + 1)) else ((((s.set (36 + (s.getD (42 + (x.thread).toNat * 24 + a9 * 2) 0).toNat) (s.getD (42 + (x.thread).toNat * 24 + a9 * 2 + 1) 0)).take (42 + (x.thread).toNat * 24 + a9 * 2) ++ ((s.set (36 + (s.getD (42 + (x.thread).toNat * 24 + a9 * 2) 0).toNat) (s.getD (42 + (x.thread).toNat * 24 + a9 * 2 + 1) 0)).drop (42 + (x.thread).toNat * 24 + (a9 + 1) * 2)).take ((((s.getD (138 + (x.thread).toNat) 0).toNat) - (a9 + 1)) * 2) ++ (s.set (36 + (s.getD (42 + (x.thread).toNat * 24 + a9 * 2) 0).toNat) (s.getD (42 + (x.thread).toNat * 24 + a9 * 2 + 1) 0)).drop ((42 + (x.thread).toNat * 24 + a9 * 2) + (((s.getD (138 + (x.thread).toNat) 0).toNat) - (a9 + 1)) * 2)).take (42 + (x.thread).toNat * 24 + (((s.getD (138 + (x.thread).toNat) 0).toNat : Int) - (1 : Int)).toNat * 2) ++ (List.replicate 2 (0 : UInt8)) ++ ((s.set (36 + (s.getD (42 + (x.thread).toNat * 24 + a9 * 2) 0).toNat) (s.getD (42 + (x.thread).toNat * 24 + a9 * 2 + 1) 0)).take (42 + (x.thread).toNat * 24 + a9 * 2) ++ ((s.set (36 + (s.getD (42 + (x.thread).toNat * 24 + a9 * 2) 0).toNat) (s.getD (42 + (x.thread).toNat * 24 + a9 * 2 + 1) 0)).drop (42 + (x.thread).toNat * 24 + (a9 + 1) * 2)).take ((((s.getD (138 + (x.thread).toNat) 0).toNat) - (a9 + 1)) * 2) ++ (s.set (36 + (s.getD (42 + (x.thread).toNat * 24 + a9 * 2) 0).toNat) (s.getD (42 + (x.thread).toNat * 24 + a9 * 2 + 1) 0)).drop ((42 + (x.thread).toNat * 24 + a9 * 2) + (((s.getD (138 + (x.thread).toNat) 0).toNat) - (a9 + 1)) * 2)).drop (42 + (x.thread).toNat * 24 + (((s.getD (138 + (x.thread).toNat) 0).toNat : Int) - (1 : Int)).toNat * 2 + (List.replicate 2 (0 : UInt8)).length)).set (138 + (x.thread).toNat) (((((s.set (36 + (s.getD (42 + (x.thread).toNat * 24 + a9 * 2) 0).toNat) (s.getD (42 + (x.thread).toNat * 24 + a9 * 2 + 1) 0)).take (42 + (x.thread).toNat * 24 + a9 * 2) ++ ((s.set (36 + (s.getD (42 + (x.thread).toNat * 24 + a9 * 2) 0).toNat) (s.getD (42 + (x.thread).toNat * 24 + a9 * 2 + 1) 0)).drop (42 + (x.thread).toNat * 24 + (a9 + 1) * 2)).take ((((s.getD (138 + (x.thread).toNat) 0).toNat) - (a9 + 1)) * 2) ++ (s.set (36 + (s.getD (42 + (x.thread).toNat * 24 + a9 * 2) 0).toNat) (s.getD (42 + (x.thread).toNat * 24 + a9 * 2 + 1) 0)).drop ((42 + (x.thread).toNat * 24 + a9 * 2) + (((s.getD (138 + (x.thread).toNat) 0).toNat) - (a9 + 1)) * 2)).take (42 + (x.thread).toNat * 24 + (((s.getD (138 + (x.thread).toNat) 0).toNat : Int) - (1 : Int)).toNat * 2) ++ (List.replicate 2 (0 : UInt8)) ++ ((s.set (36 + (s.getD (42 + (x.thread).toNat * 24 + a9 * 2) 0).toNat) (s.getD (42 + (x.thread).toNat * 24 + a9 * 2 + 1) 0)).take (42 + (x.thread).toNat * 24 + a9 * 2) ++ ((s.set (36 + (s.getD (42 + (x.thread).toNat * 24 + a9 * 2) 0).toNat) (s.getD (42 + (x.thread).toNat * 24 + a9 * 2 + 1) 0)).drop (42 + (x.thread).toNat * 24 + (a9 + 1) * 2)).take ((((s.getD (138 + (x.thread).toNat) 0).toNat) - (a9 + 1)) * 2) ++ (s.set (36 + (s.getD (42 + (x.thread).toNat * 24 + a9 * 2) 0).toNat) (s.getD (42 + (x.thread).toNat * 24 + a9 * 2 + 1) 0)).drop ((42 + (x.thread).toNat * 24 + a9 * 2) + (((s.getD (138 + (x.thread).toNat) 0).toNat) - (a9 + 1)) * 2)).drop (42 + (x.thread).toNat * 24 + (((s.getD (138 + (x.thread).toNat) 0).toNat : Int) - (1 : Int)).toNat * 2 + (List.replicate 2 (0 : UInt8)).length)).getD (138 + (x.thread).toNat) 0) - (1 : UInt8)))
def drainF (mach : UInt8) (s : List UInt8) (x : Pass) : (List UInt8) :=
  loopF (drainF_a mach s x) 13 0
def drainAt (S : List UInt8) (t m at' : Nat) : List UInt8 :=
  let S0 := S.set (36 + (stL S t at').toNat) (stV S t at')
  let S1 := S0.take (42 + t * 24 + at' * 2) ++ (S0.drop (42 + t * 24 + (at' + 1) * 2)).take ((m - (at' + 1)) * 2) ++ S0.drop ((42 + t * 24 + at' * 2) + (m - (at' + 1)) * 2)
  let S2 := S1.take (42 + t * 24 + ((m : Int) - 1).toNat * 2) ++ List.replicate 2 0 ++ S1.drop (42 + t * 24 + ((m : Int) - 1).toNat * 2 + (List.replicate 2 (0 : UInt8)).length)
  S2.set (138 + t) (S2.getD (138 + t) 0 - 1)
theorem drain_go {mach : UInt8} {S : List UInt8} {x : Pass} {at' : Nat} (h0 : mach = 3 → ∀ k, k < at' → stL S x.thread.toNat k ≠ x.loc) (h1 : mach = 3 → stL S x.thread.toNat at' = x.loc) (h2 : mach ≠ 3 → at' = 0) : ∀ (f n : Nat), n ≤ at' → at' < n + f →
    loopF (drainF_a mach S x) f n = drainAt S x.thread.toNat (S.getD (138 + x.thread.toNat) 0).toNat at'
  | 0, n, h, h' => by omega
  | f + 1, n, h, h' => by
    show drainF_a mach S x (loopF (drainF_a mach S x) f) n = _
    unfold drainF_a
    simp only
    change (bif (mach == 3 && (stL S x.thread.toNat n != x.loc)) then _ else _) = _
    by_cases hn : n = at'
    · subst hn
      rw [show (mach == 3 && (stL S x.thread.toNat n != x.loc)) = false by
        by_cases hm : mach = 3
        · simp [h1 hm]
        · simp [hm]]
      rfl
    · have hm : mach = 3 := by
        rcases Decidable.em (mach = 3) with hm | hm
        · exact hm
        · have := h2 hm; omega
      rw [show (mach == 3 && (stL S x.thread.toNat n != x.loc)) = true by
        have := h0 hm n (by omega)
        simp [hm, this]]
      exact drain_go h0 h1 h2 f (n + 1) (by omega) (by omega)
theorem drainAt_len {S : List UInt8} {t m at' : Nat} (hS : S.length = 142) (ht : t < 4) (hm : m ≤ 12) (ha : at' < m) : (drainAt S t m at').length = 142 := by
  unfold drainAt
  simp only [List.length_set, List.length_append, List.length_take, List.length_drop, List.length_replicate]
  omega
theorem least {P : Nat → Prop} : ∀ n, P n → ∃ k, k ≤ n ∧ P k ∧ ∀ j, j < k → ¬ P j := by
  intro n
  induction n using Nat.strongRecOn with
  | _ n ih =>
    intro h
    rcases Classical.em (∃ j, j < n ∧ P j) with ⟨j, hj, hp⟩ | hn
    · obtain ⟨k, h1, h2, h3⟩ := ih j hj hp
      exact ⟨k, by omega, h2, h3⟩
    · exact ⟨n, Nat.le_refl _, h, fun j hj hp => hn ⟨j, hj, hp⟩⟩
theorem drain_eq {mach : UInt8} {s : List UInt8} {x : Pass} (hm : 0 < (s.getD (138 + x.thread.toNat) 0).toNat ∧ (s.getD (138 + x.thread.toNat) 0).toNat ≤ 12) (he : mach = 3 → ∃ k, k < (s.getD (138 + x.thread.toNat) 0).toNat ∧ s.getD (42 + x.thread.toNat * 24 + k * 2) 0 = x.loc) :
    ∃ at', at' < (s.getD (138 + x.thread.toNat) 0).toNat ∧ (mach = 3 → stL s x.thread.toNat at' = x.loc ∧ ∀ k, k < at' → stL s x.thread.toNat k ≠ x.loc) ∧ (mach ≠ 3 → at' = 0) ∧ drainF mach s x = drainAt s x.thread.toNat (s.getD (138 + x.thread.toNat) 0).toNat at' := by
  rcases Decidable.em (mach = 3) with h | h
  · obtain ⟨n, hn, hl⟩ := he h
    obtain ⟨k, h1, h2, h3⟩ := least (P := fun k => stL s x.thread.toNat k = x.loc) n hl
    exact ⟨k, by omega, fun _ => ⟨h2, h3⟩, fun h' => absurd h h', drain_go (fun _ => h3) (fun _ => h2) (fun h' => absurd h h') 13 0 (by omega) (by omega)⟩
  · exact ⟨0, by omega, fun h' => absurd h' h, fun _ => rfl, drain_go (fun h' => absurd h' h) (fun h' => absurd h' h) (fun _ => rfl) 13 0 (by omega) (by omega)⟩

@[simp] theorem drainF_len (mach : UInt8) (s : List UInt8) (x : Pass) (hs : s.length = 142) (ht : x.thread.toNat < 4) (hm : 0 < (s.getD (138 + x.thread.toNat) 0).toNat ∧ (s.getD (138 + x.thread.toNat) 0).toNat ≤ 12) (he : mach = 3 → ∃ k, k < (s.getD (138 + x.thread.toNat) 0).toNat ∧ s.getD (42 + x.thread.toNat * 24 + k * 2) 0 = x.loc) (hloc : ∀ k, k < (s.getD (138 + x.thread.toNat) 0).toNat → (s.getD (42 + x.thread.toNat * 24 + k * 2) 0).toNat < 6) : (drainF mach s x).length = 142 := by
  obtain ⟨a, h1, -, -, h4⟩ := drain_eq hm he
  rw [h4]; exact drainAt_len hs ht hm.2 h1

theorem drainF_spec (mach : UInt8) (s : List UInt8) (x : Pass) (hs : s.length = 142) (ht : x.thread.toNat < 4) (hm : 0 < (s.getD (138 + x.thread.toNat) 0).toNat ∧ (s.getD (138 + x.thread.toNat) 0).toNat ≤ 12) (he : mach = 3 → ∃ k, k < (s.getD (138 + x.thread.toNat) 0).toNat ∧ s.getD (42 + x.thread.toNat * 24 + k * 2) 0 = x.loc) (hloc : ∀ k, k < (s.getD (138 + x.thread.toNat) 0).toNat → (s.getD (42 + x.thread.toNat * 24 + k * 2) 0).toNat < 6) (w : World) :
    Calls Tryz.prog 55 #[bv mach, .agg (enc s).toArray, .agg x.cells.toArray] w fun e w' => e = .returned (.agg (enc (drainF mach s x)).toArray) ∧ Ext w w' := by
 have H := Own.start w
 go_enter Tryz.func55, Tryz.ntmps55
 refine wsr ?_
 refine wl_box H rfl rfl (v := .agg (enc s).toArray) rfl ?_
 clear H; intro b1 w1 hnb1 H; dsimp only [Value.cells] at H
 simp only [N]
 refine wl_box H rfl rfl (v := .agg (x.cells).toArray) rfl ?_
 clear H; intro b2 w2 hnb2 H; dsimp only [Value.cells] at H
 simp only [N]
 refine wl_alloc H rfl rfl zv41 ?_
 clear H; intro b3 w3 hnb3 H; dsimp only [Value.cells] at H
 simp only [N]
 simp only [enc_replicate] at H
 refine wpList_nil ?_
 refine wp_seq ?_; refine wp_region_own H (by kernel_rfl) (by kernel_rfl) ?_
 refine wq_run rfl (fun w H => rp_fieldAddr rfl Tryz.underlying50 rfl 0 rfl sz5 rfl 0 rfl) ?_; simp only [N]
 refine wq_run rfl (fun w H => rp_load1 H 1 rfl rfl rfl Tryz.underlying5 rfl (v := bv x.thread) rfl) ?_; simp only [N]
 refine wq_run rfl (fun w H => rp_fieldAddr rfl Tryz.underlying41 rfl 42 rfl sz38 rfl 42 rfl) ?_; simp only [N]
 refine wq_run rfl (fun w H => rp_indexAddr_arr rfl Tryz.underlying38 sz37 rfl (x.thread).toNat rfl (by omega) (42 + (x.thread).toNat * 24) (by omega)) ?_; simp only [N]
 refine wq_run rfl (fun w H => rp_fieldAddr rfl Tryz.underlying50 rfl 0 rfl sz5 rfl 0 rfl) ?_; simp only [N]
 refine wq_run rfl (fun w H => rp_load1 H 1 rfl rfl rfl Tryz.underlying5 rfl (v := bv x.thread) rfl) ?_; simp only [N]
 refine wq_run rfl (fun w H => rp_fieldAddr rfl Tryz.underlying41 rfl 138 rfl sz39 rfl 138 rfl) ?_; simp only [N]
 refine wq_run rfl (fun w H => rp_indexAddr_arr rfl Tryz.underlying39 sz5 rfl (x.thread).toNat rfl (by omega) (138 + (x.thread).toNat) (by omega)) ?_; simp only [N]
 refine wq_run rfl (fun w H => rp_load1e H 2 rfl rfl rfl Tryz.underlying5 rfl (138 + (x.thread).toNat) rfl (by first | omega | (simp only [enc_length, List.size_toArray, List.length_set, List.length_append, List.length_take, List.length_drop, List.length_replicate]; omega) | (simp [-List.reduceReplicate]; done) | (simp [-List.reduceReplicate]; omega) | (simp [*, -List.reduceReplicate]; done) | (simp [*, -List.reduceReplicate]; omega))) ?_; simp only [N]
 refine wq_run rfl (fun w H => rp_u8_to_int rfl Tryz.underlying5 Tryz.underlying3 (s.getD (138 + (x.thread).toNat) 0) rfl) ?_; simp only [N]
 refine wq_run rfl (fun w H => rp_assign rfl (v := .pointer (some ⟨b1, 42 + (x.thread).toNat * 24, none⟩)) rfl) ?_; simp only [N]
 refine wq_run rfl (fun w H => rp_assign rfl (v := iv ((s.getD (138 + (x.thread).toNat) 0).toNat : Int)) rfl) ?_; simp only [N]
 refine wq_nil ?_
 clear H; intro w4 H
 refine wsr ?_
 refine wasg (iv (0 : Int)) ?_; simp only [N]
 refine wpList_nil ?_
 refine wp_seq ?_; refine wp_block ?_
 refine wp_loopX (fun m' a' w' => ∃ (a9 : Nat) (na : Nat), a' = ⟨#[bv mach, (tq a' 1), (tq a' 2), uU, .pointer (some ⟨b1, 0, none⟩), .pointer (some ⟨b2, 0, none⟩), .pointer (some ⟨b3, 0, none⟩), .pointer (some ⟨b1, 42 + (x.thread).toNat * 24, none⟩), iv ((s.getD (138 + (x.thread).toNat) 0).toNat : Int), iv (a9 : Int), (tq a' 10), (tq a' 11), (tq a' 12), (tq a' 13), (tq a' 14), (tq a' 15), (tq a' 16), (tq a' 17), (tq a' 18), (tq a' 19), (tq a' 20), (tq a' 21), (tq a' 22), (tq a' 23), (tq a' 24), (tq a' 25), (tq a' 26), (tq a' 27), (tq a' 28), (tq a' 29), (tq a' 30), (tq a' 31), (tq a' 32), (tq a' 33), (tq a' 34), uU, uU, uU, uU, uU, uU, uU, uU, uU, uU, uU, uU, uU, uU, uU, uU, uU, uU, uU, uU, uU, uU, uU, uU, uU, uU, uU, uU, uU, uU, uU, uU, uU, uU, uU, uU, uU, uU, uU, uU], []⟩ ∧ Own w [] [] [.blk b3 (.cells (enc (List.replicate 142 (0 : UInt8))).toArray 41 (0, 0)), .blk b2 (.cells (x.cells).toArray 50 (0, 0)), .blk b1 (.cells (enc s).toArray 41 (0, 0))] w' ∧ (∀ k, k < a9 → s.getD (42 + x.thread.toNat * 24 + k * 2) 0 ≠ x.loc) ∧ (a9 < (s.getD (138 + x.thread.toNat) 0).toNat) ∧ 12 - a9 < na ∧ (drainF mach s x) = loopF (drainF_a mach s x) na a9 ∧ m' = 12 - a9) _ ⟨0, 13, (by kernel_rfl), H, (by intro k hk; omega), (by omega), (by omega), rfl, rfl⟩ ?_
 clear H
 rintro _ a_ w5 ⟨a9, na, ha_, H, hia0, hia1, hma, hFa, rfl⟩
 obtain ⟨ua, hu_⟩ : ∃ u : Nat → Value, ∀ n, tq a_ n = u n := ⟨_, fun _ => rfl⟩
 try simp only [hu_] at ha_
 clear hu_; subst ha_
 obtain ⟨na, rfl⟩ : ∃ q, na = q + 1 := ⟨na - 1, by omega⟩
 obtain ⟨ra, hra⟩ : ∃ r, r = loopF (drainF_a mach s x) na := ⟨_, rfl⟩
 have hFa : (drainF mach s x) = drainF_a mach s x ra a9 := hFa.trans (by rw [hra]; rfl)
 refine wp_seq ?_; refine wp_seq ?_; refine wp_region_own H (by kernel_rfl) (by kernel_rfl) ?_
 refine wq_run rfl (fun w H => rp_move rfl (v := bv mach) rfl) ?_; simp only [N]
 refine wq_run rfl (fun w H => rp_u8_eql rfl mach (3 : UInt8) rfl rfl) ?_; simp only [N]
 refine wq_run rfl (fun w H => rp_move rfl (v := .bool (mach == (3 : UInt8))) rfl) ?_; simp only [N]
 refine wq_g (wn_t rfl rfl) (v := .pointer (some ⟨b1, 42 + (x.thread).toNat * 24, none⟩)) (fun hg w H => rp_move rfl (v := .pointer (some ⟨b1, 42 + (x.thread).toNat * 24, none⟩)) rfl) ?_; simp only [N]
 refine wq_g (wn_t rfl rfl) (v := iv (a9 : Int)) (fun hg w H => rp_move rfl (v := iv (a9 : Int)) rfl) ?_; simp only [N]
 refine wq_g (wn_t rfl rfl) (v := .pointer (some ⟨b1, 42 + (x.thread).toNat * 24, none⟩)) (fun hg w H => by have x3 : mach.toNat = 3 := u8_eq hg; exact (by simp only [gv_t hg]; exact rp_nilCheck rfl rfl)) ?_; simp only [N]
 refine wq_g (wn_t rfl rfl) (v := .pointer (some ⟨b1, 42 + (x.thread).toNat * 24 + a9 * 2, none⟩)) (fun hg w H => by have x4 : mach.toNat = 3 := u8_eq hg; exact (by simp only [gv_t hg]; exact rp_indexAddr_arr rfl Tryz.underlying37 sz36 rfl a9 rfl (by omega) (42 + (x.thread).toNat * 24 + a9 * 2) (by omega))) ?_; simp only [N]
 refine wq_g (wn_t rfl rfl) (v := .pointer (some ⟨b1, 42 + (x.thread).toNat * 24 + a9 * 2, none⟩)) (fun hg w H => by have x5 : mach.toNat = 3 := u8_eq hg; exact (by simp only [gv_t hg]; exact rp_fieldAddr rfl Tryz.underlying36 rfl 0 rfl sz5 rfl (42 + (x.thread).toNat * 24 + a9 * 2) (by omega))) ?_; simp only [N]
 refine wq_g (wn_t rfl rfl) (v := bv (s.getD (42 + (x.thread).toNat * 24 + a9 * 2) 0)) (fun hg w H => by have x6 : mach.toNat = 3 := u8_eq hg; exact (by simp only [gv_t hg]; exact rp_load1e H 2 rfl rfl rfl Tryz.underlying5 rfl (42 + (x.thread).toNat * 24 + a9 * 2) rfl (by first | omega | (simp only [enc_length, List.size_toArray, List.length_set, List.length_append, List.length_take, List.length_drop, List.length_replicate]; omega) | (simp [-List.reduceReplicate]; done) | (simp [-List.reduceReplicate]; omega) | (simp [*, -List.reduceReplicate]; done) | (simp [*, -List.reduceReplicate]; omega)))) ?_; simp only [N]
 refine wq_g (wn_t rfl rfl) (v := .pointer (some ⟨b2, 2, none⟩)) (fun hg w H => rp_fieldAddr rfl Tryz.underlying50 rfl 2 rfl sz5 rfl 2 rfl) ?_; simp only [N]
 refine wq_g (wn_t rfl rfl) (v := bv x.loc) (fun hg w H => by have x8 : mach.toNat = 3 := u8_eq hg; exact (by simp only [gv_t hg]; exact rp_load1 H 1 rfl rfl rfl Tryz.underlying5 rfl (v := bv x.loc) rfl)) ?_; simp only [N]
 refine wq_g (wn_t rfl rfl) (v := .bool ((s.getD (42 + (x.thread).toNat * 24 + a9 * 2) 0) != x.loc)) (fun hg w H => by have x9 : mach.toNat = 3 := u8_eq hg; exact (by simp only [gv_t hg]; exact rp_u8_neq rfl (s.getD (42 + (x.thread).toNat * 24 + a9 * 2) 0) x.loc rfl rfl)) ?_; simp only [N]
 refine wq_run rfl (fun w H => rp_pickA rfl (p := (mach == (3 : UInt8))) (q := ((s.getD (42 + (x.thread).toNat * 24 + a9 * 2) 0) != x.loc)) rfl rfl rfl) ?_; simp only [N]
 refine wq_nil ?_
 clear H; intro w6 H
 refine wp_cond_split rfl (fun hc1 => ?_) (fun hc1 => ?_)
 · --T 1
  have hc1N10 : mach.toNat = 3 := u8_eq (andl hc1)
  have hc1N11 : (s.getD (42 + (x.thread).toNat * 24 + a9 * 2) 0).toNat ≠ (x.loc).toNat := u8_ne2 (andr hc1)
  refine wp_skip ?_
  refine wp_block ?_
  refine wp_region_lit ?_; refine wmv (iv (a9 : Int)) ?_; simp only [N]
  refine wr (rp_int_add rfl (a9 : Int) (1 : Int) rfl rfl (by omega)) ?_; simp only [N]
  refine wasg (iv ((a9 : Int) + (1 : Int))) ?_; simp only [N]
  refine wpList_nil ?_
  show ∃ n', n' < _ ∧ _
  refine ⟨_, ?_, (a9 + 1), na, (by kernel_rfl), H, (by intro k hk he9; exact (Nat.lt_or_ge k a9).elim (fun hk2 => hia0 k hk2 he9) (fun hk2 => hc1N11 (by rw [← he9, show k = a9 by omega]))), (by obtain ⟨k, hk, hk2⟩ := he (UInt8.toNat_inj.1 hc1N10); have hq : ¬ k < a9 + 1 := fun h3 => (Nat.lt_or_ge k a9).elim (fun h4 => hia0 k h4 hk2) (fun h4 => hc1N11 (by rw [← hk2, show k = a9 by omega])); omega), (by omega), (hFa.trans (bt hc1)).trans (congrFun hra _), rfl⟩
  omega
 · --F 1
  have hq9 := hloc a9 hia1
  refine wp_exit ?_
  refine wp_seq ?_; refine wp_region_mix 14 H (by kernel_rfl) ?_
  refine wxl_tk 0 rfl (xy_run rfl (fun w H => rp_move rfl (v := .pointer (some ⟨b1, 42 + (x.thread).toNat * 24, none⟩)) rfl)) ?_; simp only [N]
  refine wxl_tk 1 rfl (xy_run rfl (fun w H => rp_move rfl (v := iv (a9 : Int)) rfl)) ?_; simp only [N]
  refine wxl_tk 2 rfl (xy_run rfl (fun w H => rp_nilCheck rfl rfl)) ?_; simp only [N]
  refine wxl_tk 3 rfl (xy_run rfl (fun w H => rp_indexAddr_arr rfl Tryz.underlying37 sz36 rfl a9 rfl (by omega) (42 + (x.thread).toNat * 24 + a9 * 2) (by omega))) ?_; simp only [N]
  refine wxl_tk 4 rfl (xy_run rfl (fun w H => rp_fieldAddr rfl Tryz.underlying36 rfl 0 rfl sz5 rfl (42 + (x.thread).toNat * 24 + a9 * 2) (by omega))) ?_; simp only [N]
  refine wxl_tk 5 rfl (xy_run rfl (fun w H => rp_load1e H 2 rfl rfl rfl Tryz.underlying5 rfl (42 + (x.thread).toNat * 24 + a9 * 2) rfl (by first | omega | (simp only [enc_length, List.size_toArray, List.length_set, List.length_append, List.length_take, List.length_drop, List.length_replicate]; omega) | (simp [-List.reduceReplicate]; done) | (simp [-List.reduceReplicate]; omega) | (simp [*, -List.reduceReplicate]; done) | (simp [*, -List.reduceReplicate]; omega)))) ?_; simp only [N]
  refine wxl_tk 6 rfl (xy_run rfl (fun w H => rp_move rfl (v := .pointer (some ⟨b1, 42 + (x.thread).toNat * 24, none⟩)) rfl)) ?_; simp only [N]
  refine wxl_tk 7 rfl (xy_run rfl (fun w H => rp_move rfl (v := iv (a9 : Int)) rfl)) ?_; simp only [N]
  refine wxl_tk 8 rfl (xy_run rfl (fun w H => rp_nilCheck rfl rfl)) ?_; simp only [N]
  refine wxl_tk 9 rfl (xy_run rfl (fun w H => rp_indexAddr_arr rfl Tryz.underlying37 sz36 rfl a9 rfl (by omega) (42 + (x.thread).toNat * 24 + a9 * 2) (by omega))) ?_; simp only [N]
  refine wxl_tk 10 rfl (xy_run rfl (fun w H => rp_fieldAddr rfl Tryz.underlying36 rfl 1 rfl sz5 rfl (42 + (x.thread).toNat * 24 + a9 * 2 + 1) (by omega))) ?_; simp only [N]
  refine wxl_tk 11 rfl (xy_run rfl (fun w H => rp_load1e H 2 rfl rfl rfl Tryz.underlying5 rfl (42 + (x.thread).toNat * 24 + a9 * 2 + 1) rfl (by first | omega | (simp only [enc_length, List.size_toArray, List.length_set, List.length_append, List.length_take, List.length_drop, List.length_replicate]; omega) | (simp [-List.reduceReplicate]; done) | (simp [-List.reduceReplicate]; omega) | (simp [*, -List.reduceReplicate]; done) | (simp [*, -List.reduceReplicate]; omega)))) ?_; simp only [N]
  refine wxl_tk 12 rfl (xy_run rfl (fun w H => rp_fieldAddr rfl Tryz.underlying41 rfl 36 rfl sz34 rfl 36 rfl)) ?_; simp only [N]
  refine wxl_tk 13 rfl (xy_run rfl (fun w H => rp_indexAddr_arr rfl Tryz.underlying34 sz5 rfl (s.getD (42 + (x.thread).toNat * 24 + a9 * 2) 0).toNat rfl (by omega) (36 + (s.getD (42 + (x.thread).toNat * 24 + a9 * 2) 0).toNat) (by omega))) ?_; simp only [N]
  refine wpX_tail (n := 0) _ rfl rfl (by kernel_rfl) ?_
  clear H; intro w7 H; simp only [List.cons_append, List.nil_append] at H
  refine wl_store1e H 2 rfl rfl rfl rfl (s.getD (42 + (x.thread).toNat * 24 + a9 * 2 + 1) 0) rfl sz5 (36 + (s.getD (42 + (x.thread).toNat * 24 + a9 * 2) 0).toNat) rfl (by first | omega | (simp only [enc_length, List.size_toArray, List.length_set, List.length_append, List.length_take, List.length_drop, List.length_replicate]; omega) | (simp [-List.reduceReplicate]; done) | (simp [-List.reduceReplicate]; omega) | (simp [*, -List.reduceReplicate]; done) | (simp [*, -List.reduceReplicate]; omega)) ?_
  clear H; intro w8 H; simp only [M] at H
  simp only [N]
  refine wpList_nil ?_
  refine wp_seq ?_; refine wp_region_mix 10 H (by kernel_rfl) ?_
  refine wxl_tk 0 rfl (xy_run rfl (fun w H => rp_move rfl (v := .pointer (some ⟨b1, 42 + (x.thread).toNat * 24, none⟩)) rfl)) ?_; simp only [N]
  refine wxl_tk 1 rfl (xy_run rfl (fun w H => rp_nilCheck rfl rfl)) ?_; simp only [N]
  refine wxl_tk 2 rfl (xy_run rfl (fun w H => rp_move rfl (v := iv (a9 : Int)) rfl)) ?_; simp only [N]
  refine wxl_tk 3 rfl (xy_run rfl (fun w H => rp_slice_arr_l rfl Tryz.underlying37 sz36 rfl a9 rfl (by omega))) ?_; simp only [N]
  refine wxl_tk 4 rfl (xy_run rfl (fun w H => rp_move rfl (v := .pointer (some ⟨b1, 42 + (x.thread).toNat * 24, none⟩)) rfl)) ?_; simp only [N]
  refine wxl_tk 5 rfl (xy_run rfl (fun w H => rp_nilCheck rfl rfl)) ?_; simp only [N]
  refine wxl_tk 6 rfl (xy_run rfl (fun w H => rp_move rfl (v := iv (a9 : Int)) rfl)) ?_; simp only [N]
  refine wxl_tk 7 rfl (xy_run rfl (fun w H => rp_int_add rfl (a9 : Int) (1 : Int) rfl rfl (by omega))) ?_; simp only [N]
  refine wxl_tk 8 rfl (xy_run rfl (fun w H => rp_move rfl (v := iv ((s.getD (138 + (x.thread).toNat) 0).toNat : Int)) rfl)) ?_; simp only [N]
  refine wxl_tk 9 rfl (xy_run rfl (fun w H => rp_slice_arr_lh rfl Tryz.underlying37 sz36 rfl (a9 + 1) ((s.getD (138 + (x.thread).toNat) 0).toNat) rfl rfl (by omega))) ?_; simp only [N]
  refine wpX_tail (n := 0) _ rfl rfl (by kernel_rfl) ?_
  clear H; intro w9 H; simp only [List.cons_append, List.nil_append] at H
  refine wl_copySS H 2 rfl Tryz.underlying68 sz36 rfl (off := 42 + (x.thread).toNat * 24) (lo := a9) (len := 12) rfl (off' := 42 + (x.thread).toNat * 24) (lo' := (a9 + 1)) (len' := 12) rfl (((s.getD (138 + (x.thread).toNat) 0).toNat) - (a9 + 1)) (by omega) (by omega) (by refine ⟨?_, ?_, ?_, ?_⟩ <;> first | omega | (simp only [List.length_set, List.length_append, List.length_take, List.length_drop, List.length_replicate]; omega) | (simp; omega)) ?_
  clear H; intro w10 H; simp only [M] at H
  simp only [N]
  refine wnr ?_
  refine wmv (.pointer (some ⟨b1, 42 + (x.thread).toNat * 24, none⟩)) ?_; simp only [N]
  refine wmv (iv ((s.getD (138 + (x.thread).toNat) 0).toNat : Int)) ?_; simp only [N]
  refine wr (rp_int_sub rfl ((s.getD (138 + (x.thread).toNat) 0).toNat : Int) (1 : Int) rfl rfl (by omega)) ?_; simp only [N]
  refine wr (rp_build rfl (vs := []) rfl (cs := (enc (List.replicate 2 (0 : UInt8))).toArray) (by kernel_rfl)) ?_; simp only [N]
  refine wr (rp_nilCheck rfl rfl) ?_; simp only [N]
  refine wr (rp_indexAddr_arrI rfl Tryz.underlying37 sz36 rfl (((s.getD (138 + (x.thread).toNat) 0).toNat : Int) - (1 : Int)) (by omega) rfl (by omega) (42 + (x.thread).toNat * 24 + (((s.getD (138 + (x.thread).toNat) 0).toNat : Int) - (1 : Int)).toNat * 2) (by omega)) ?_; simp only [N]
  refine wl_storeNe H 2 rfl rfl rfl rfl (List.replicate 2 (0 : UInt8)) rfl (by first | exact sz36 | (rw [sz36]; congr 1; first | omega | (simp only [enc_length, List.size_toArray, List.length_set, List.length_append, List.length_take, List.length_drop, List.length_replicate]; omega) | (simp [-List.reduceReplicate]; done) | (simp [-List.reduceReplicate]; omega) | (simp [*, -List.reduceReplicate]; done) | (simp [*, -List.reduceReplicate]; omega))) (42 + (x.thread).toNat * 24 + (((s.getD (138 + (x.thread).toNat) 0).toNat : Int) - (1 : Int)).toNat * 2) rfl (by first | omega | (simp only [enc_length, List.size_toArray, List.length_set, List.length_append, List.length_take, List.length_drop, List.length_replicate]; omega) | (simp [-List.reduceReplicate]; done) | (simp [-List.reduceReplicate]; omega) | (simp [*, -List.reduceReplicate]; done) | (simp [*, -List.reduceReplicate]; omega)) ?_
  clear H; intro w11 H; simp only [M] at H
  simp only [N]
  refine wnr ?_
  refine wr (rp_fieldAddr rfl Tryz.underlying50 rfl 0 rfl sz5 rfl 0 rfl) ?_; simp only [N]
  refine wr (rp_load1 H 1 rfl rfl rfl Tryz.underlying5 rfl (v := bv x.thread) rfl) ?_; simp only [N]
  refine wr (rp_fieldAddr rfl Tryz.underlying41 rfl 138 rfl sz39 rfl 138 rfl) ?_; simp only [N]
  refine wr (rp_indexAddr_arr rfl Tryz.underlying39 sz5 rfl (x.thread).toNat rfl (by omega) (138 + (x.thread).toNat) (by omega)) ?_; simp only [N]
  refine wr (rp_load1e H 2 rfl rfl rfl Tryz.underlying5 rfl (138 + (x.thread).toNat) rfl (by first | omega | (simp only [enc_length, List.size_toArray, List.length_set, List.length_append, List.length_take, List.length_drop, List.length_replicate]; omega) | (simp [-List.reduceReplicate]; done) | (simp [-List.reduceReplicate]; omega) | (simp [*, -List.reduceReplicate]; done) | (simp [*, -List.reduceReplicate]; omega))) ?_; simp only [N]
  refine wr (rp_u8_sub rfl ((((s.set (36 + (s.getD (42 + (x.thread).toNat * 24 + a9 * 2) 0).toNat) (s.getD (42 + (x.thread).toNat * 24 + a9 * 2 + 1) 0)).take (42 + (x.thread).toNat * 24 + a9 * 2) ++ ((s.set (36 + (s.getD (42 + (x.thread).toNat * 24 + a9 * 2) 0).toNat) (s.getD (42 + (x.thread).toNat * 24 + a9 * 2 + 1) 0)).drop (42 + (x.thread).toNat * 24 + (a9 + 1) * 2)).take ((((s.getD (138 + (x.thread).toNat) 0).toNat) - (a9 + 1)) * 2) ++ (s.set (36 + (s.getD (42 + (x.thread).toNat * 24 + a9 * 2) 0).toNat) (s.getD (42 + (x.thread).toNat * 24 + a9 * 2 + 1) 0)).drop ((42 + (x.thread).toNat * 24 + a9 * 2) + (((s.getD (138 + (x.thread).toNat) 0).toNat) - (a9 + 1)) * 2)).take (42 + (x.thread).toNat * 24 + (((s.getD (138 + (x.thread).toNat) 0).toNat : Int) - (1 : Int)).toNat * 2) ++ (List.replicate 2 (0 : UInt8)) ++ ((s.set (36 + (s.getD (42 + (x.thread).toNat * 24 + a9 * 2) 0).toNat) (s.getD (42 + (x.thread).toNat * 24 + a9 * 2 + 1) 0)).take (42 + (x.thread).toNat * 24 + a9 * 2) ++ ((s.set (36 + (s.getD (42 + (x.thread).toNat * 24 + a9 * 2) 0).toNat) (s.getD (42 + (x.thread).toNat * 24 + a9 * 2 + 1) 0)).drop (42 + (x.thread).toNat * 24 + (a9 + 1) * 2)).take ((((s.getD (138 + (x.thread).toNat) 0).toNat) - (a9 + 1)) * 2) ++ (s.set (36 + (s.getD (42 + (x.thread).toNat * 24 + a9 * 2) 0).toNat) (s.getD (42 + (x.thread).toNat * 24 + a9 * 2 + 1) 0)).drop ((42 + (x.thread).toNat * 24 + a9 * 2) + (((s.getD (138 + (x.thread).toNat) 0).toNat) - (a9 + 1)) * 2)).drop (42 + (x.thread).toNat * 24 + (((s.getD (138 + (x.thread).toNat) 0).toNat : Int) - (1 : Int)).toNat * 2 + (List.replicate 2 (0 : UInt8)).length)).getD (138 + (x.thread).toNat) 0) (1 : UInt8) rfl rfl) ?_; simp only [N]
  refine wr (rp_fieldAddr rfl Tryz.underlying41 rfl 138 rfl sz39 rfl 138 rfl) ?_; simp only [N]
  refine wr (rp_indexAddr_arr rfl Tryz.underlying39 sz5 rfl (x.thread).toNat rfl (by omega) (138 + (x.thread).toNat) (by omega)) ?_; simp only [N]
  refine wl_store1e H 2 rfl rfl rfl rfl (((((s.set (36 + (s.getD (42 + (x.thread).toNat * 24 + a9 * 2) 0).toNat) (s.getD (42 + (x.thread).toNat * 24 + a9 * 2 + 1) 0)).take (42 + (x.thread).toNat * 24 + a9 * 2) ++ ((s.set (36 + (s.getD (42 + (x.thread).toNat * 24 + a9 * 2) 0).toNat) (s.getD (42 + (x.thread).toNat * 24 + a9 * 2 + 1) 0)).drop (42 + (x.thread).toNat * 24 + (a9 + 1) * 2)).take ((((s.getD (138 + (x.thread).toNat) 0).toNat) - (a9 + 1)) * 2) ++ (s.set (36 + (s.getD (42 + (x.thread).toNat * 24 + a9 * 2) 0).toNat) (s.getD (42 + (x.thread).toNat * 24 + a9 * 2 + 1) 0)).drop ((42 + (x.thread).toNat * 24 + a9 * 2) + (((s.getD (138 + (x.thread).toNat) 0).toNat) - (a9 + 1)) * 2)).take (42 + (x.thread).toNat * 24 + (((s.getD (138 + (x.thread).toNat) 0).toNat : Int) - (1 : Int)).toNat * 2) ++ (List.replicate 2 (0 : UInt8)) ++ ((s.set (36 + (s.getD (42 + (x.thread).toNat * 24 + a9 * 2) 0).toNat) (s.getD (42 + (x.thread).toNat * 24 + a9 * 2 + 1) 0)).take (42 + (x.thread).toNat * 24 + a9 * 2) ++ ((s.set (36 + (s.getD (42 + (x.thread).toNat * 24 + a9 * 2) 0).toNat) (s.getD (42 + (x.thread).toNat * 24 + a9 * 2 + 1) 0)).drop (42 + (x.thread).toNat * 24 + (a9 + 1) * 2)).take ((((s.getD (138 + (x.thread).toNat) 0).toNat) - (a9 + 1)) * 2) ++ (s.set (36 + (s.getD (42 + (x.thread).toNat * 24 + a9 * 2) 0).toNat) (s.getD (42 + (x.thread).toNat * 24 + a9 * 2 + 1) 0)).drop ((42 + (x.thread).toNat * 24 + a9 * 2) + (((s.getD (138 + (x.thread).toNat) 0).toNat) - (a9 + 1)) * 2)).drop (42 + (x.thread).toNat * 24 + (((s.getD (138 + (x.thread).toNat) 0).toNat : Int) - (1 : Int)).toNat * 2 + (List.replicate 2 (0 : UInt8)).length)).getD (138 + (x.thread).toNat) 0) - (1 : UInt8)) rfl sz5 (138 + (x.thread).toNat) rfl (by first | omega | (simp only [enc_length, List.size_toArray, List.length_set, List.length_append, List.length_take, List.length_drop, List.length_replicate]; omega) | (simp [-List.reduceReplicate]; done) | (simp [-List.reduceReplicate]; omega) | (simp [*, -List.reduceReplicate]; done) | (simp [*, -List.reduceReplicate]; omega)) ?_
  clear H; intro w12 H; simp only [M] at H
  simp only [N]
  refine wnr ?_
  refine wr (rp_loadWe H 2 rfl rfl rfl Tryz.underlying41 rfl (by first | exact sz41 | (rw [sz41]; congr 1; first | omega | (simp only [enc_length, List.size_toArray, List.length_set, List.length_append, List.length_take, List.length_drop, List.length_replicate]; omega) | (simp [-List.reduceReplicate]; done) | (simp [-List.reduceReplicate]; omega) | (simp [*, -List.reduceReplicate]; done) | (simp [*, -List.reduceReplicate]; omega))) rfl) ?_; simp only [N]
  refine wl_storeW H 0 rfl rfl rfl rfl (vs := (enc ((((s.set (36 + (s.getD (42 + (x.thread).toNat * 24 + a9 * 2) 0).toNat) (s.getD (42 + (x.thread).toNat * 24 + a9 * 2 + 1) 0)).take (42 + (x.thread).toNat * 24 + a9 * 2) ++ ((s.set (36 + (s.getD (42 + (x.thread).toNat * 24 + a9 * 2) 0).toNat) (s.getD (42 + (x.thread).toNat * 24 + a9 * 2 + 1) 0)).drop (42 + (x.thread).toNat * 24 + (a9 + 1) * 2)).take ((((s.getD (138 + (x.thread).toNat) 0).toNat) - (a9 + 1)) * 2) ++ (s.set (36 + (s.getD (42 + (x.thread).toNat * 24 + a9 * 2) 0).toNat) (s.getD (42 + (x.thread).toNat * 24 + a9 * 2 + 1) 0)).drop ((42 + (x.thread).toNat * 24 + a9 * 2) + (((s.getD (138 + (x.thread).toNat) 0).toNat) - (a9 + 1)) * 2)).take (42 + (x.thread).toNat * 24 + (((s.getD (138 + (x.thread).toNat) 0).toNat : Int) - (1 : Int)).toNat * 2) ++ (List.replicate 2 (0 : UInt8)) ++ ((s.set (36 + (s.getD (42 + (x.thread).toNat * 24 + a9 * 2) 0).toNat) (s.getD (42 + (x.thread).toNat * 24 + a9 * 2 + 1) 0)).take (42 + (x.thread).toNat * 24 + a9 * 2) ++ ((s.set (36 + (s.getD (42 + (x.thread).toNat * 24 + a9 * 2) 0).toNat) (s.getD (42 + (x.thread).toNat * 24 + a9 * 2 + 1) 0)).drop (42 + (x.thread).toNat * 24 + (a9 + 1) * 2)).take ((((s.getD (138 + (x.thread).toNat) 0).toNat) - (a9 + 1)) * 2) ++ (s.set (36 + (s.getD (42 + (x.thread).toNat * 24 + a9 * 2) 0).toNat) (s.getD (42 + (x.thread).toNat * 24 + a9 * 2 + 1) 0)).drop ((42 + (x.thread).toNat * 24 + a9 * 2) + (((s.getD (138 + (x.thread).toNat) 0).toNat) - (a9 + 1)) * 2)).drop (42 + (x.thread).toNat * 24 + (((s.getD (138 + (x.thread).toNat) 0).toNat : Int) - (1 : Int)).toNat * 2 + (List.replicate 2 (0 : UInt8)).length)).set (138 + (x.thread).toNat) (((((s.set (36 + (s.getD (42 + (x.thread).toNat * 24 + a9 * 2) 0).toNat) (s.getD (42 + (x.thread).toNat * 24 + a9 * 2 + 1) 0)).take (42 + (x.thread).toNat * 24 + a9 * 2) ++ ((s.set (36 + (s.getD (42 + (x.thread).toNat * 24 + a9 * 2) 0).toNat) (s.getD (42 + (x.thread).toNat * 24 + a9 * 2 + 1) 0)).drop (42 + (x.thread).toNat * 24 + (a9 + 1) * 2)).take ((((s.getD (138 + (x.thread).toNat) 0).toNat) - (a9 + 1)) * 2) ++ (s.set (36 + (s.getD (42 + (x.thread).toNat * 24 + a9 * 2) 0).toNat) (s.getD (42 + (x.thread).toNat * 24 + a9 * 2 + 1) 0)).drop ((42 + (x.thread).toNat * 24 + a9 * 2) + (((s.getD (138 + (x.thread).toNat) 0).toNat) - (a9 + 1)) * 2)).take (42 + (x.thread).toNat * 24 + (((s.getD (138 + (x.thread).toNat) 0).toNat : Int) - (1 : Int)).toNat * 2) ++ (List.replicate 2 (0 : UInt8)) ++ ((s.set (36 + (s.getD (42 + (x.thread).toNat * 24 + a9 * 2) 0).toNat) (s.getD (42 + (x.thread).toNat * 24 + a9 * 2 + 1) 0)).take (42 + (x.thread).toNat * 24 + a9 * 2) ++ ((s.set (36 + (s.getD (42 + (x.thread).toNat * 24 + a9 * 2) 0).toNat) (s.getD (42 + (x.thread).toNat * 24 + a9 * 2 + 1) 0)).drop (42 + (x.thread).toNat * 24 + (a9 + 1) * 2)).take ((((s.getD (138 + (x.thread).toNat) 0).toNat) - (a9 + 1)) * 2) ++ (s.set (36 + (s.getD (42 + (x.thread).toNat * 24 + a9 * 2) 0).toNat) (s.getD (42 + (x.thread).toNat * 24 + a9 * 2 + 1) 0)).drop ((42 + (x.thread).toNat * 24 + a9 * 2) + (((s.getD (138 + (x.thread).toNat) 0).toNat) - (a9 + 1)) * 2)).drop (42 + (x.thread).toNat * 24 + (((s.getD (138 + (x.thread).toNat) 0).toNat : Int) - (1 : Int)).toNat * 2 + (List.replicate 2 (0 : UInt8)).length)).getD (138 + (x.thread).toNat) 0) - (1 : UInt8)))).toArray) rfl (fun v hv => enc_one v (by simpa using hv)) (by first | (rw [sz41]; congr 1; done) | (rw [sz41]; congr 1; first | omega | (simp only [enc_length, List.size_toArray, List.length_set, List.length_append, List.length_take, List.length_drop, List.length_replicate]; omega) | (simp [-List.reduceReplicate]; done) | (simp [-List.reduceReplicate]; omega) | (simp [*, -List.reduceReplicate]; done) | (simp [*, -List.reduceReplicate]; omega))) (by first | omega | (simp only [enc_length, List.size_toArray, List.length_set, List.length_append, List.length_take, List.length_drop, List.length_replicate]; omega) | (simp [-List.reduceReplicate]; done) | (simp [-List.reduceReplicate]; omega) | (simp [*, -List.reduceReplicate]; done) | (simp [*, -List.reduceReplicate]; omega)) ?_
  clear H; intro w13 H; simp only [M] at H
  simp only [N]
  refine wpList_nil ?_
  refine wp_ret ?_
  try simp only [Exit.inBlock, Exit.then, cutP]
  refine bodyPost_ret (results1 rfl (rv_agg H 0 rfl rfl Tryz.underlying41 rfl (by first | exact sz41 | (rw [sz41]; congr 1; first | omega | (simp only [enc_length, List.size_toArray, List.length_set, List.length_append, List.length_take, List.length_drop, List.length_replicate]; omega) | (simp [-List.reduceReplicate]; done) | (simp [-List.reduceReplicate]; omega) | (simp [*, -List.reduceReplicate]; done) | (simp [*, -List.reduceReplicate]; omega))))) rfl ?_
  have hF : (drainF mach s x) = ((((s.set (36 + (s.getD (42 + (x.thread).toNat * 24 + a9 * 2) 0).toNat) (s.getD (42 + (x.thread).toNat * 24 + a9 * 2 + 1) 0)).take (42 + (x.thread).toNat * 24 + a9 * 2) ++ ((s.set (36 + (s.getD (42 + (x.thread).toNat * 24 + a9 * 2) 0).toNat) (s.getD (42 + (x.thread).toNat * 24 + a9 * 2 + 1) 0)).drop (42 + (x.thread).toNat * 24 + (a9 + 1) * 2)).take ((((s.getD (138 + (x.thread).toNat) 0).toNat) - (a9 + 1)) * 2) ++ (s.set (36 + (s.getD (42 + (x.thread).toNat * 24 + a9 * 2) 0).toNat) (s.getD (42 + (x.thread).toNat * 24 + a9 * 2 + 1) 0)).drop ((42 + (x.thread).toNat * 24 + a9 * 2) + (((s.getD (138 + (x.thread).toNat) 0).toNat) - (a9 + 1)) * 2)).take (42 + (x.thread).toNat * 24 + (((s.getD (138 + (x.thread).toNat) 0).toNat : Int) - (1 : Int)).toNat * 2) ++ (List.replicate 2 (0 : UInt8)) ++ ((s.set (36 + (s.getD (42 + (x.thread).toNat * 24 + a9 * 2) 0).toNat) (s.getD (42 + (x.thread).toNat * 24 + a9 * 2 + 1) 0)).take (42 + (x.thread).toNat * 24 + a9 * 2) ++ ((s.set (36 + (s.getD (42 + (x.thread).toNat * 24 + a9 * 2) 0).toNat) (s.getD (42 + (x.thread).toNat * 24 + a9 * 2 + 1) 0)).drop (42 + (x.thread).toNat * 24 + (a9 + 1) * 2)).take ((((s.getD (138 + (x.thread).toNat) 0).toNat) - (a9 + 1)) * 2) ++ (s.set (36 + (s.getD (42 + (x.thread).toNat * 24 + a9 * 2) 0).toNat) (s.getD (42 + (x.thread).toNat * 24 + a9 * 2 + 1) 0)).drop ((42 + (x.thread).toNat * 24 + a9 * 2) + (((s.getD (138 + (x.thread).toNat) 0).toNat) - (a9 + 1)) * 2)).drop (42 + (x.thread).toNat * 24 + (((s.getD (138 + (x.thread).toNat) 0).toNat : Int) - (1 : Int)).toNat * 2 + (List.replicate 2 (0 : UInt8)).length)).set (138 + (x.thread).toNat) (((((s.set (36 + (s.getD (42 + (x.thread).toNat * 24 + a9 * 2) 0).toNat) (s.getD (42 + (x.thread).toNat * 24 + a9 * 2 + 1) 0)).take (42 + (x.thread).toNat * 24 + a9 * 2) ++ ((s.set (36 + (s.getD (42 + (x.thread).toNat * 24 + a9 * 2) 0).toNat) (s.getD (42 + (x.thread).toNat * 24 + a9 * 2 + 1) 0)).drop (42 + (x.thread).toNat * 24 + (a9 + 1) * 2)).take ((((s.getD (138 + (x.thread).toNat) 0).toNat) - (a9 + 1)) * 2) ++ (s.set (36 + (s.getD (42 + (x.thread).toNat * 24 + a9 * 2) 0).toNat) (s.getD (42 + (x.thread).toNat * 24 + a9 * 2 + 1) 0)).drop ((42 + (x.thread).toNat * 24 + a9 * 2) + (((s.getD (138 + (x.thread).toNat) 0).toNat) - (a9 + 1)) * 2)).take (42 + (x.thread).toNat * 24 + (((s.getD (138 + (x.thread).toNat) 0).toNat : Int) - (1 : Int)).toNat * 2) ++ (List.replicate 2 (0 : UInt8)) ++ ((s.set (36 + (s.getD (42 + (x.thread).toNat * 24 + a9 * 2) 0).toNat) (s.getD (42 + (x.thread).toNat * 24 + a9 * 2 + 1) 0)).take (42 + (x.thread).toNat * 24 + a9 * 2) ++ ((s.set (36 + (s.getD (42 + (x.thread).toNat * 24 + a9 * 2) 0).toNat) (s.getD (42 + (x.thread).toNat * 24 + a9 * 2 + 1) 0)).drop (42 + (x.thread).toNat * 24 + (a9 + 1) * 2)).take ((((s.getD (138 + (x.thread).toNat) 0).toNat) - (a9 + 1)) * 2) ++ (s.set (36 + (s.getD (42 + (x.thread).toNat * 24 + a9 * 2) 0).toNat) (s.getD (42 + (x.thread).toNat * 24 + a9 * 2 + 1) 0)).drop ((42 + (x.thread).toNat * 24 + a9 * 2) + (((s.getD (138 + (x.thread).toNat) 0).toNat) - (a9 + 1)) * 2)).drop (42 + (x.thread).toNat * 24 + (((s.getD (138 + (x.thread).toNat) 0).toNat : Int) - (1 : Int)).toNat * 2 + (List.replicate 2 (0 : UInt8)).length)).getD (138 + (x.thread).toNat) 0) - (1 : UInt8))) := hFa.trans (bf hc1)
  rw [hF]
  exact ⟨rfl, H.ext⟩

end Go.Proofs.YtimonjemjhecoaaGreatDoor
