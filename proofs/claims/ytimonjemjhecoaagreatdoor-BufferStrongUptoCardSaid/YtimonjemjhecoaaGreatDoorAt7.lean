/- Walks, printed by a program of this repository (wip/tool). -/
import Derived.Test.YtimonjemjhecoaaGreatDoorDec2
namespace Go.Proofs.YtimonjemjhecoaaGreatDoor
open Go.RowKit
open Go
attribute [local irreducible] wpList wpQuiet wpX Code.wp
set_option maxHeartbeats 1000000
set_option maxRecDepth 100000
set_option linter.unusedSimpArgs false
set_option linter.unusedVariables false

theorem able_may {p : Prog} {S : List UInt8} {l : List Int} (hl : l = ableF p S) {k : Nat} (hk : k < l.length) : mayF p S (l.getD k default) = true := by
  subst hl
  have hm : ∀ x ∈ ableF p S, mayF p S x = true := by
    unfold ableF
    refine loopL_inv (fun s : Nat × List Int => ∀ x ∈ s.2, mayF p S x = true) (fun r : List Int => ∀ x ∈ r, mayF p S x = true) ?_ ?_ _ _ (by simp)
    · rintro x r ⟨a, l⟩ h hr
      simp only [ableF_a]
      cases hc : mayF p S (a : Int) <;> simp only [cond_true, cond_false]
      · exact hr _ h
      · refine hr _ ?_
        intro x hx
        rcases List.mem_append.1 hx with hx | hx
        · exact h x hx
        · simp only [List.mem_singleton] at hx; rw [hx]; exact hc
    · rintro ⟨a, l⟩ h; exact h
  refine hm _ ?_
  rw [List.getD_eq_getElem?_getD, List.getElem?_eq_getElem hk]
  exact List.getElem_mem hk
theorem able_todo {p : Prog} {S : List UInt8} {t : Int} (hp : RightOk p) (hS : S.length = 142) (hm : mayF p S t = true) : todo p (goesF p S t.toNat) < todo p S := goes_todo hp hS (mayF_nat.1 hm).2
theorem able_lt {p : Prog} {S : List UInt8} {t : Int} (hp : RightOk p) (hm : mayF p S t = true) : t.toNat < 4 := by
  have h := (mayN_iff.1 (mayF_nat.1 hm).2).1
  have := hp.threads
  omega

def playF_a (p : Prog) (picks : List UInt8) (ra : ((List Int) × (List Int) × (List UInt8)) → ((List UInt8) × (List Int) × Int)) : ((List Int) × (List Int) × (List UInt8)) → (List UInt8) × (List Int) × Int := fun s_ => match s_ with | (a10, arow1, ab3) => bif (decide ((0 : Int) < ((a10.length : Nat) : Int))) then (bif (decide (((arow1.length : Nat) : Int) < ((picks.length : Nat) : Int))) then (ra ((ableF p (goesF p ab3 (a10.getD ((picks.getD (arow1.length) default).toNat % a10.length) default).toNat)), (arow1 ++ [(a10.getD ((picks.getD (arow1.length) default).toNat % a10.length) default)]), (goesF p ab3 (a10.getD ((picks.getD (arow1.length) default).toNat % a10.length) default).toNat))) else (ra ((ableF p (goesF p ab3 (a10.getD 0 default).toNat)), (arow1 ++ [(a10.getD 0 default)]), (goesF p ab3 (a10.getD 0 default).toNat)))) else ((finalF ab3), arow1, (0 : Int))
def playF (p : Prog) (picks : List UInt8) : (List UInt8) × (List Int) × Int :=
  bif ((startF p).2 != (0 : Int)) then ((List.replicate 38 (0 : UInt8)), [], (startF p).2) else (loopF (playF_a p picks) 49 ((ableF p ((startF p).1)), ([] : List Int), (startF p).1))
theorem play_len {p : Prog} {l : List UInt8} (hr : RightOk p) : ∀ (n : Nat) (s : List UInt8) (o : List Int), s.length = 142 → todo p s < n → ((loopF (playF_a p l) n (ableF p s, o, s)).1).length = 38
  | 0, s, o, hs, h => by omega
  | n + 1, s, o, hs, h => by
    have key : ∀ k, k < (ableF p s).length → ∀ o', ((loopF (playF_a p l) n (ableF p (goesF p s ((ableF p s).getD k default).toNat), o', goesF p s ((ableF p s).getD k default).toNat)).1).length = 38 := fun k hk o' => by
      have hm := able_may (p := p) (S := s) rfl hk
      have h1 := able_todo hr hs hm
      exact play_len hr n _ _ (goes_length hs (able_lt hr hm)) (by omega)
    show (playF_a p l (loopF (playF_a p l) n) (ableF p s, o, s)).1.length = 38
    simp only [playF_a]
    cases hc : decide ((0 : Int) < ((ableF p s).length : Nat)) <;> simp only [cond_true, cond_false]
    · exact finalF_len s hs
    · have hc := of_decide_eq_true hc
      cases decide (((o.length : Nat) : Int) < ((l.length : Nat) : Int)) <;> simp only [cond_true, cond_false]
      · exact key _ (by omega) _
      · exact key _ (Nat.mod_lt _ (by omega)) _

@[simp] theorem playF_len0 (p : Prog) (picks : List UInt8) : ((playF p picks).1).length = 38 := by
  unfold playF
  cases hc : (startF p).2 != (0 : Int) <;> simp only [cond_true, cond_false]
  · have hr := start_ok (by simpa using hc); exact play_len hr _ _ _ (by simp) (by have := todo_le hr (startF p).1; omega)
  · simp

theorem playF_spec (p : Prog) (picks : Sl UInt8) (w : World) (hp : (IsProg p) w) (hpicks : (SlIn 1 eByte picks) w) (hg_ : Glob w) :
    Calls Tryz.prog 25 #[.agg p.cells.toArray, picks.val] w fun e w' => ∃ x : (Option Addr × Nat), e = .returned (.tuple #[.agg (enc (playF p picks.l).1).toArray, (⟨x.1, x.2, (playF p picks.l).2.1⟩ : Sl Int).val, iv (playF p picks.l).2.2]) ∧ Ext w w' ∧ Fresh w w' (SlIn 1 eInt (⟨x.1, x.2, (playF p picks.l).2.1⟩ : Sl Int)) := by
 have H := Own.start_ro w [IsProg p, SlIn 1 eByte picks, Glob] (List.forall_mem_cons.2 ⟨fun w' hw => hp.keep hw, List.forall_mem_cons.2 ⟨fun w' hw => hpicks.keep hw, List.forall_mem_cons.2 ⟨fun w' hw => hg_.keep hw, fun _ h => by cases h⟩⟩⟩)
 have hcp1 := hp.locs.2.2
 have hcp2 := hp.init.2.2
 have hcp3 := hp.threads.2.2
 have hcpicks := hpicks.2.2
 go_enter Tryz.func25, Tryz.ntmps25
 refine wp_seq ?_; refine wp_region_lit ?_; refine wl_box H rfl rfl (v := .agg (p.cells).toArray) rfl ?_
 clear H; intro b1 w1 hnb1 H; dsimp only [Value.cells] at H
 simp only [N]
 refine wl_alloc H rfl rfl zv64 ?_
 clear H; intro b2 w2 hnb2 H; dsimp only [Value.cells] at H
 simp only [N]
 simp only [enc_replicate] at H
 refine wasg ((.slice none 0 0)) ?_; simp only [N]
 refine wasg (iv (0 : Int)) ?_; simp only [N]
 refine wpList_nil ?_
 refine wp_seq ?_; refine wp_region_lit ?_; refine wr (rp_loadN H 1 rfl rfl rfl Tryz.underlying29 rfl sz29 (Nat.le_of_ble_eq_true rfl) (cs' := p.cells) rfl) ?_; simp only [N]
 refine wl_callE H rfl (rc_go Tryz.func18 (by kernel_rfl) rfl) (startF_spec p _ (H.ro_at 0 rfl) (H.ro_at 2 rfl)) ?_
 clear H; intro w3 H
 simp only [N]
 refine wmv (.tuple #[.agg (enc (startF p).1).toArray, iv (startF p).2]) ?_; simp only [N]
 refine wr (rp_extract rfl rfl (v := .agg (enc (startF p).1).toArray) rfl) ?_; simp only [N]
 refine wr (rp_extract rfl rfl (v := iv (startF p).2) rfl) ?_; simp only [N]
 refine wl_alloc H rfl rfl zv41 ?_
 clear H; intro b3 w4 hnb3 H; dsimp only [Value.cells] at H
 simp only [N]
 simp only [enc_replicate] at H
 refine wl_storeA H 0 rfl rfl rfl rfl (startF p).1 rfl sz41 ?_
 clear H; intro w5 H; simp only [M] at H
 simp only [N]
 refine wasg (iv (startF p).2) ?_; simp only [N]
 refine wpList_nil ?_
 refine wp_seq ?_; refine wp_seq ?_; refine wp_region_lit ?_; refine wmv (iv (startF p).2) ?_; simp only [N]
 refine wr (rp_int_neq rfl (startF p).2 (0 : Int) rfl rfl) ?_; simp only [N]
 refine wpList_nil ?_
 refine wp_cond_split rfl (fun hc1 => ?_) (fun hc1 => ?_)
 · --T 1
  have hc1N1 : (startF p).2 ≠ (0 : Int) := (by simpa using hc1)
  refine wp_seq ?_; refine wp_region_lit ?_; refine wr (rp_build rfl (vs := []) rfl (cs := (enc (List.replicate 38 (0 : UInt8))).toArray) (by kernel_rfl)) ?_; simp only [N]
  refine wmv (iv (startF p).2) ?_; simp only [N]
  refine wl_storeA H 1 rfl rfl rfl rfl (List.replicate 38 (0 : UInt8)) rfl sz64 ?_
  clear H; intro w6 H; simp only [M] at H
  simp only [N]
  refine wasg ((.slice none 0 0)) ?_; simp only [N]
  refine wasg (iv (startF p).2) ?_; simp only [N]
  refine wpList_nil ?_
  refine wp_ret ?_
  try simp only [Exit.inBlock, Exit.then, cutP]
  refine bodyPost_ret (results3 rfl (rv_aggA H 1 rfl rfl Tryz.underlying64 rfl sz64) (rv_tmp rfl) (rv_tmp rfl)) rfl ?_
  have hF : (playF p picks.l) = ((List.replicate 38 (0 : UInt8)), [], (startF p).2) := bt hc1
  rw [hF]
  exact ⟨(none, 0), rfl, H.ext, (fun _ _ => slin_nil eIntN)⟩
 · --F 1
  have hc1N2 : (startF p).2 = (0 : Int) := (by simpa using hc1)
  have hr : RightOk p := start_ok (by simpa using hc1)
  refine wp_skip ?_
  refine wp_seq ?_; refine wp_region_lit ?_; refine wasg ((.slice none 0 0)) ?_; simp only [N]
  refine wpList_nil ?_
  refine wp_seq ?_; refine wp_seq ?_; refine wp_region_lit ?_; refine wr (rp_loadN H 2 rfl rfl rfl Tryz.underlying29 rfl sz29 (Nat.le_of_ble_eq_true rfl) (cs' := p.cells) rfl) ?_; simp only [N]
  refine wr (rp_loadWA H 0 rfl rfl rfl Tryz.underlying41 rfl sz41 rfl) ?_; simp only [N]
  refine wl_callFA H rfl (rc_go Tryz.func45 (by kernel_rfl) rfl) (ableF_spec p ((startF p).1) (by first | omega | simp [-List.reduceReplicate] <;> omega | simp [*, -List.reduceReplicate] <;> omega) (by exact hr.threads.2) _ (H.ro_at 0 rfl)) ?_
  clear H; intro x1_ w7 H
  simp only [N]
  have hcx1_0 : (ableF p ((startF p).1)).length ≤ 140737488355328 := (FreshAt.now (H.ro_at 0 rfl)).2.2.1
  refine wasg ((⟨x1_.1, x1_.2, (ableF p ((startF p).1))⟩ : Sl Int).val) ?_; simp only [N]
  refine wpList_nil ?_
  refine wp_block ?_
  have H := H.rowNilT eInt 3 1
  replace H := H.infer (SlIn 1 eInt (⟨x1_.1, x1_.2, (ableF p ((startF p).1))⟩ : Sl Int)) (fun _ hR => (FreshAt.now (ro_mem hR 0 rfl)))
  refine wp_loopX (fun m' a' w' => ∃ (a10 : Sl Int) (arow1 : List Int) (ab3 : List UInt8) (u11 u24 u25 u26 u27 u28 u29 u30 u31 u32 u33 u34 u35 u36 u37 u38 u39 u40 u41 u42 u43 u44 u45 u46 u47 u48 u49 u50 u51 u52 u53 u54 u55 u56 u57 avrow1 : Value) (na : Nat), a' = ⟨#[.agg (p.cells).toArray, picks.val, .pointer (some ⟨b1, 0, none⟩), undef, .pointer (some ⟨b2, 0, none⟩), (.slice none 0 0), iv (0 : Int), .pointer (some ⟨b3, 0, none⟩), iv (startF p).2, avrow1, a10.val, u11, .tuple #[.agg (enc (startF p).1).toArray, iv (startF p).2], .agg (p.cells).toArray, .tuple #[.agg (enc (startF p).1).toArray, iv (startF p).2], .agg (enc (startF p).1).toArray, iv (startF p).2, iv (startF p).2, .bool ((startF p).2 != (0 : Int)), undef, undef, .agg (p.cells).toArray, .agg (enc (startF p).1).toArray, (⟨x1_.1, x1_.2, (ableF p ((startF p).1))⟩ : Sl Int).val, u24, u25, u26, u27, u28, u29, u30, u31, u32, u33, u34, u35, u36, u37, u38, u39, u40, u41, u42, u43, u44, u45, u46, u47, u48, u49, u50, u51, u52, u53, u54, u55, u56, u57, undef, undef, undef], []⟩ ∧ Own w [] [SlIn 1 eInt a10, FreshAt w (SlIn 1 eInt (⟨x1_.1, x1_.2, (ableF p ((startF p).1))⟩ : Sl Int)), IsProg p, SlIn 1 eByte picks, Glob] [.row avrow1 3 1 arow1.length (arow1.flatMap eInt), .blk b3 (.cells (enc ab3).toArray 41 (0, 0)), .blk b2 (.cells (enc (List.replicate 38 (0 : UInt8))).toArray 64 (0, 0)), .blk b1 (.cells (p.cells).toArray 29 (0, 0))] w' ∧ (ab3.length = 142) ∧ (a10.l = ableF p ab3) ∧ (arow1.length + todo p ab3 ≤ 48) ∧ todo p ab3 < na ∧ (playF p picks.l) = loopF (playF_a p picks.l) na (a10.l, arow1, ab3) ∧ m' = todo p ab3) _ ⟨(⟨x1_.1, x1_.2, (ableF p ((startF p).1))⟩ : Sl Int), ([] : List Int), (startF p).1, _, _, _, _, _, _, _, _, _, _, _, _, _, _, _, _, _, _, _, _, _, _, _, _, _, _, _, _, _, _, _, _, _, _, _, (.slice none 0 0), 49, rfl, H, (by first | omega | simp [-List.reduceReplicate] <;> omega | simp [*, -List.reduceReplicate] <;> omega), (by rfl), (by have := todo_le hr (startF p).1; simp; omega), (by have := todo_le hr (startF p).1; omega), bf hc1, rfl⟩ ?_
  clear H
  rintro _ _ w8 ⟨a10, arow1, ab3, u11, u24, u25, u26, u27, u28, u29, u30, u31, u32, u33, u34, u35, u36, u37, u38, u39, u40, u41, u42, u43, u44, u45, u46, u47, u48, u49, u50, u51, u52, u53, u54, u55, u56, u57, avrow1, na, rfl, H, hia0, hia1, hia2, hma, hFa, rfl⟩
  have hca10 := (H.ro_at 0 rfl).2.2
  obtain ⟨na, rfl⟩ : ∃ q, na = q + 1 := ⟨na - 1, by omega⟩
  obtain ⟨ra, hra⟩ : ∃ r, r = loopF (playF_a p picks.l) na := ⟨_, rfl⟩
  have hFa : (playF p picks.l) = playF_a p picks.l ra (a10.l, arow1, ab3) := hFa.trans (by rw [hra]; rfl)
  refine wp_seq ?_; refine wp_seq ?_; refine wp_region_lit ?_; refine wmv (a10.val) ?_; simp only [N]
  refine wr (rp_len_sl (s := a10) Tryz.underlying79 rfl) ?_; simp only [N]
  refine wr (rp_int_gtr rfl ((a10.l.length : Nat) : Int) (0 : Int) rfl rfl) ?_; simp only [N]
  refine wpList_nil ?_
  refine wp_cond_split rfl (fun hc2 => ?_) (fun hc2 => ?_)
  · --T 2
   have hc2N3 : (0 : Int) < ((a10.l.length : Nat) : Int) := (by simpa using hc2)
   refine wp_skip ?_
   refine wp_seq ?_; refine wp_block ?_
   refine wp_seq ?_; refine wp_region_lit ?_; refine wmv (a10.val) ?_; simp only [N]
   refine wr (rp_indexAddr_sl (H.ro_at 0 rfl) rfl Tryz.underlying79 sz3 rfl 0 rfl (by omega)) ?_; simp only [N]
   refine wr (rp_load1_sl (H.ro_at 0 rfl) 0 (by omega) rfl Tryz.underlying3 rfl 0 rfl (by omega) (v := iv (a10.l.getD 0 default)) rfl) ?_; simp only [N]
   refine wasg (iv (a10.l.getD 0 default)) ?_; simp only [N]
   refine wpList_nil ?_
   refine wp_seq ?_; refine wp_seq ?_; refine wp_region_lit ?_; refine wmv avrow1 ?_; simp only [N]
   refine wr (rp_len_row H 0 rfl Tryz.underlying79 rfl) ?_; simp only [N]
   refine wmv (picks.val) ?_; simp only [N]
   refine wr (rp_len_sl (s := picks) Tryz.underlying23 rfl) ?_; simp only [N]
   refine wr (rp_int_lss rfl ((arow1.length : Nat) : Int) ((picks.l.length : Nat) : Int) rfl rfl) ?_; simp only [N]
   refine wpList_nil ?_
   refine wp_cond_split rfl (fun hc3 => ?_) (fun hc3 => ?_)
   · --T 3
    have hc3N4 : ((arow1.length : Nat) : Int) < ((picks.l.length : Nat) : Int) := (by simpa using hc3)
    refine wp_region_lit ?_; refine wmv (a10.val) ?_; simp only [N]
    refine wmv (picks.val) ?_; simp only [N]
    refine wmv avrow1 ?_; simp only [N]
    refine wr (rp_len_row H 0 rfl Tryz.underlying79 rfl) ?_; simp only [N]
    refine wr (rp_indexAddr_sl (H.ro_at 3 rfl) rfl Tryz.underlying23 sz5 rfl arow1.length rfl (by omega)) ?_; simp only [N]
    refine wr (rp_load1_sl (H.ro_at 3 rfl) (arow1.length) (by omega) rfl Tryz.underlying5 rfl 0 rfl (by omega) (v := bv (picks.l.getD (arow1.length) default)) rfl) ?_; simp only [N]
    refine wr (rp_u8_to_int rfl Tryz.underlying5 Tryz.underlying3 (picks.l.getD (arow1.length) default) rfl) ?_; simp only [N]
    refine wmv (a10.val) ?_; simp only [N]
    refine wr (rp_len_sl (s := a10) Tryz.underlying79 rfl) ?_; simp only [N]
    have hrem47 : ((picks.l.getD (arow1.length) default).toNat % a10.l.length) < a10.l.length := Nat.mod_lt _ (by omega)
    refine wr (rp_int_rem rfl ((picks.l.getD (arow1.length) default).toNat) a10.l.length rfl rfl (by omega)) ?_; simp only [N]
    refine wr (rp_indexAddr_sl (H.ro_at 0 rfl) rfl Tryz.underlying79 sz3 rfl ((picks.l.getD (arow1.length) default).toNat % a10.l.length) rfl (by omega)) ?_; simp only [N]
    refine wr (rp_load1_sl (H.ro_at 0 rfl) ((picks.l.getD (arow1.length) default).toNat % a10.l.length) (by omega) rfl Tryz.underlying3 rfl 0 rfl (by omega) (v := iv (a10.l.getD ((picks.l.getD (arow1.length) default).toNat % a10.l.length) default)) rfl) ?_; simp only [N]
    refine wasg (iv (a10.l.getD ((picks.l.getD (arow1.length) default).toNat % a10.l.length) default)) ?_; simp only [N]
    refine wpList_nil ?_
    refine wp_seq ?_; refine wp_region_lit ?_; refine wr (rp_loadN H 3 rfl rfl rfl Tryz.underlying29 rfl sz29 (Nat.le_of_ble_eq_true rfl) (cs' := p.cells) rfl) ?_; simp only [N]
    refine wr (rp_loadWA H 1 rfl rfl rfl Tryz.underlying41 rfl sz41 rfl) ?_; simp only [N]
    refine wmv (iv (a10.l.getD ((picks.l.getD (arow1.length) default).toNat % a10.l.length) default)) ?_; simp only [N]
    have hgm1 : mayF p ab3 (a10.l.getD ((picks.l.getD (arow1.length) default).toNat % a10.l.length) default) = true := by exact able_may hia1 (by omega)
    have hgr1 : RightOk p := by assumption
    have hgS1 : ab3.length = 142 := by first | omega | simp [-List.reduceReplicate] <;> omega | simp [*, -List.reduceReplicate] <;> omega
    have hgl1 : (goesF p ab3 (a10.l.getD ((picks.l.getD (arow1.length) default).toNat % a10.l.length) default).toNat).length = 142 := goes_length hgS1 (able_lt hgr1 hgm1)
    have hgt1 : todo p (goesF p ab3 (a10.l.getD ((picks.l.getD (arow1.length) default).toNat % a10.l.length) default).toNat) < todo p ab3 := able_todo hgr1 hgS1 hgm1
    have hgl1b := hgl1
    try simp [-List.reduceReplicate] at hgl1b
    refine wl_callE H rfl (rc_go Tryz.func44 (by kernel_rfl) rfl) (goesI_spec p ab3 (a10.l.getD ((picks.l.getD (arow1.length) default).toNat % a10.l.length) default) hgS1 hgr1 hgm1 _ (H.ro_at 2 rfl)) ?_
    clear H; intro w9 H
    simp only [N]
    refine wl_storeA H 1 rfl rfl rfl rfl (goesF p ab3 (a10.l.getD ((picks.l.getD (arow1.length) default).toNat % a10.l.length) default).toNat) rfl sz41 ?_
    clear H; intro w10 H; simp only [M] at H
    simp only [N]
    refine wpList_nil ?_
    refine wp_region_lit ?_; refine wmv avrow1 ?_; simp only [N]
    refine wmv (iv (a10.l.getD ((picks.l.getD (arow1.length) default).toNat % a10.l.length) default)) ?_; simp only [N]
    refine wl_xallocF H rfl (xa_buildSlice rfl Tryz.underlying79 sz3 zv3 (by decide) (by decide) (vs := [(0, iv (a10.l.getD ((picks.l.getD (arow1.length) default).toNat % a10.l.length) default))]) rfl (cs := #[iv (a10.l.getD ((picks.l.getD (arow1.length) default).toNat % a10.l.length) default)]) (by kernel_rfl)) ?_
    clear H; intro b4 w11 hnb4 H
    simp only [N]
    refine wl_appendT eInt H 0 rfl Tryz.underlying79 sz3 zv3 by3 rfl (by decide) rfl rfl (ad := ⟨b4, 0, none⟩) (m := 1) (c := 1) rfl [(a10.l.getD ((picks.l.getD (arow1.length) default).toNat % a10.l.length) default)] rfl eIntN (fun j u hu => cell_of_news (H.ro_at 0 rfl) j u hu) (by intro x; simp [eInt, Value.oneCell']) (by first | omega | (simp only [List.length_append, List.length_cons, List.length_nil]; omega)) (by first | omega | (simp only [List.length_append, List.length_cons, List.length_nil]; omega)) (by simp) ?_
    clear H; intro b5 w12 H; simp only [M] at H
    simp only [N]
    refine wasg b5 ?_; simp only [N]
    refine wpList_nil ?_
    refine wp_region_lit ?_; refine wr (rp_loadN H 3 rfl rfl rfl Tryz.underlying29 rfl sz29 (Nat.le_of_ble_eq_true rfl) (cs' := p.cells) rfl) ?_; simp only [N]
    refine wr (rp_loadWA H 1 rfl rfl rfl Tryz.underlying41 rfl sz41 rfl) ?_; simp only [N]
    refine wl_callFA H rfl (rc_go Tryz.func45 (by kernel_rfl) rfl) (ableF_spec p (goesF p ab3 (a10.l.getD ((picks.l.getD (arow1.length) default).toNat % a10.l.length) default).toNat) (by first | omega | simp [-List.reduceReplicate] <;> omega | simp [*, -List.reduceReplicate] <;> omega) (by exact hr.threads.2) _ (H.ro_at 3 rfl)) ?_
    clear H; intro x2_ w13 H
    simp only [N]
    have hcx2_0 : (ableF p (goesF p ab3 (a10.l.getD ((picks.l.getD (arow1.length) default).toNat % a10.l.length) default).toNat)).length ≤ 140737488355328 := (FreshAt.now (H.ro_at 0 rfl)).2.2.1
    refine wasg ((⟨x2_.1, x2_.2, (ableF p (goesF p ab3 (a10.l.getD ((picks.l.getD (arow1.length) default).toNat % a10.l.length) default).toNat))⟩ : Sl Int).val) ?_; simp only [N]
    refine wpList_nil ?_
    replace H := H.infer (SlIn 1 eInt (⟨x2_.1, x2_.2, (ableF p (goesF p ab3 (a10.l.getD ((picks.l.getD (arow1.length) default).toNat % a10.l.length) default).toNat))⟩ : Sl Int)) (fun _ hR => (FreshAt.now (ro_mem hR 0 rfl)))
    replace H := H.facts (R' := [SlIn 1 eInt (⟨x2_.1, x2_.2, (ableF p (goesF p ab3 (a10.l.getD ((picks.l.getD (arow1.length) default).toNat % a10.l.length) default).toNat))⟩ : Sl Int), FreshAt w (SlIn 1 eInt (⟨x1_.1, x1_.2, (ableF p ((startF p).1))⟩ : Sl Int)), IsProg p, SlIn 1 eByte picks, Glob]) (by first | exact fun _ h => h | simp)
    show ∃ n', n' < _ ∧ _
    refine ⟨_, ?_, (⟨x2_.1, x2_.2, (ableF p (goesF p ab3 (a10.l.getD ((picks.l.getD (arow1.length) default).toNat % a10.l.length) default).toNat))⟩ : Sl Int), (arow1 ++ [(a10.l.getD ((picks.l.getD (arow1.length) default).toNat % a10.l.length) default)]), (goesF p ab3 (a10.l.getD ((picks.l.getD (arow1.length) default).toNat % a10.l.length) default).toNat), _, _, _, _, _, _, _, _, _, _, _, _, _, _, _, _, _, _, _, _, _, _, _, _, _, _, _, _, _, _, _, _, _, _, _, b5, na, rfl, H, (by first | omega | simp [-List.reduceReplicate] <;> omega | simp [*, -List.reduceReplicate] <;> omega), (by rfl), (by simp only [List.length_append, List.length_cons, List.length_nil]; omega), (by omega), (hFa.trans ((bt hc2).trans (bt hc3))).trans (congrFun hra _), rfl⟩
    omega
   · --F 3
    have hc3N5 : ((picks.l.length : Nat) : Int) ≤ ((arow1.length : Nat) : Int) := (by simpa using hc3)
    refine wp_skip ?_
    refine wp_seq ?_; refine wp_region_lit ?_; refine wr (rp_loadN H 3 rfl rfl rfl Tryz.underlying29 rfl sz29 (Nat.le_of_ble_eq_true rfl) (cs' := p.cells) rfl) ?_; simp only [N]
    refine wr (rp_loadWA H 1 rfl rfl rfl Tryz.underlying41 rfl sz41 rfl) ?_; simp only [N]
    refine wmv (iv (a10.l.getD 0 default)) ?_; simp only [N]
    have hgm2 : mayF p ab3 (a10.l.getD 0 default) = true := by exact able_may hia1 (by omega)
    have hgr2 : RightOk p := by assumption
    have hgS2 : ab3.length = 142 := by first | omega | simp [-List.reduceReplicate] <;> omega | simp [*, -List.reduceReplicate] <;> omega
    have hgl2 : (goesF p ab3 (a10.l.getD 0 default).toNat).length = 142 := goes_length hgS2 (able_lt hgr2 hgm2)
    have hgt2 : todo p (goesF p ab3 (a10.l.getD 0 default).toNat) < todo p ab3 := able_todo hgr2 hgS2 hgm2
    have hgl2b := hgl2
    try simp [-List.reduceReplicate] at hgl2b
    refine wl_callE H rfl (rc_go Tryz.func44 (by kernel_rfl) rfl) (goesI_spec p ab3 (a10.l.getD 0 default) hgS2 hgr2 hgm2 _ (H.ro_at 2 rfl)) ?_
    clear H; intro w14 H
    simp only [N]
    refine wl_storeA H 1 rfl rfl rfl rfl (goesF p ab3 (a10.l.getD 0 default).toNat) rfl sz41 ?_
    clear H; intro w15 H; simp only [M] at H
    simp only [N]
    refine wpList_nil ?_
    refine wp_region_lit ?_; refine wmv avrow1 ?_; simp only [N]
    refine wmv (iv (a10.l.getD 0 default)) ?_; simp only [N]
    refine wl_xallocF H rfl (xa_buildSlice rfl Tryz.underlying79 sz3 zv3 (by decide) (by decide) (vs := [(0, iv (a10.l.getD 0 default))]) rfl (cs := #[iv (a10.l.getD 0 default)]) (by kernel_rfl)) ?_
    clear H; intro b6 w16 hnb6 H
    simp only [N]
    refine wl_appendT eInt H 0 rfl Tryz.underlying79 sz3 zv3 by3 rfl (by decide) rfl rfl (ad := ⟨b6, 0, none⟩) (m := 1) (c := 1) rfl [(a10.l.getD 0 default)] rfl eIntN (fun j u hu => cell_of_news (H.ro_at 0 rfl) j u hu) (by intro x; simp [eInt, Value.oneCell']) (by first | omega | (simp only [List.length_append, List.length_cons, List.length_nil]; omega)) (by first | omega | (simp only [List.length_append, List.length_cons, List.length_nil]; omega)) (by simp) ?_
    clear H; intro b7 w17 H; simp only [M] at H
    simp only [N]
    refine wasg b7 ?_; simp only [N]
    refine wpList_nil ?_
    refine wp_region_lit ?_; refine wr (rp_loadN H 3 rfl rfl rfl Tryz.underlying29 rfl sz29 (Nat.le_of_ble_eq_true rfl) (cs' := p.cells) rfl) ?_; simp only [N]
    refine wr (rp_loadWA H 1 rfl rfl rfl Tryz.underlying41 rfl sz41 rfl) ?_; simp only [N]
    refine wl_callFA H rfl (rc_go Tryz.func45 (by kernel_rfl) rfl) (ableF_spec p (goesF p ab3 (a10.l.getD 0 default).toNat) (by first | omega | simp [-List.reduceReplicate] <;> omega | simp [*, -List.reduceReplicate] <;> omega) (by exact hr.threads.2) _ (H.ro_at 3 rfl)) ?_
    clear H; intro x3_ w18 H
    simp only [N]
    have hcx3_0 : (ableF p (goesF p ab3 (a10.l.getD 0 default).toNat)).length ≤ 140737488355328 := (FreshAt.now (H.ro_at 0 rfl)).2.2.1
    refine wasg ((⟨x3_.1, x3_.2, (ableF p (goesF p ab3 (a10.l.getD 0 default).toNat))⟩ : Sl Int).val) ?_; simp only [N]
    refine wpList_nil ?_
    replace H := H.infer (SlIn 1 eInt (⟨x3_.1, x3_.2, (ableF p (goesF p ab3 (a10.l.getD 0 default).toNat))⟩ : Sl Int)) (fun _ hR => (FreshAt.now (ro_mem hR 0 rfl)))
    replace H := H.facts (R' := [SlIn 1 eInt (⟨x3_.1, x3_.2, (ableF p (goesF p ab3 (a10.l.getD 0 default).toNat))⟩ : Sl Int), FreshAt w (SlIn 1 eInt (⟨x1_.1, x1_.2, (ableF p ((startF p).1))⟩ : Sl Int)), IsProg p, SlIn 1 eByte picks, Glob]) (by first | exact fun _ h => h | simp)
    show ∃ n', n' < _ ∧ _
    refine ⟨_, ?_, (⟨x3_.1, x3_.2, (ableF p (goesF p ab3 (a10.l.getD 0 default).toNat))⟩ : Sl Int), (arow1 ++ [(a10.l.getD 0 default)]), (goesF p ab3 (a10.l.getD 0 default).toNat), _, _, _, _, _, _, _, _, _, _, _, _, _, _, _, _, _, _, _, _, _, _, _, _, _, _, _, _, _, _, _, _, _, _, _, b7, na, rfl, H, (by first | omega | simp [-List.reduceReplicate] <;> omega | simp [*, -List.reduceReplicate] <;> omega), (by rfl), (by simp only [List.length_append, List.length_cons, List.length_nil]; omega), (by omega), (hFa.trans ((bt hc2).trans (bf hc3))).trans (congrFun hra _), rfl⟩
    omega
  · --F 2
   have hc2N6 : ((a10.l.length : Nat) : Int) ≤ (0 : Int) := (by simpa using hc2)
   refine wp_exit ?_
   refine wp_seq ?_; refine wp_region_lit ?_; refine wr (rp_loadWA H 1 rfl rfl rfl Tryz.underlying41 rfl sz41 rfl) ?_; simp only [N]
   refine wl_callE H rfl (rc_go Tryz.func20 (by kernel_rfl) rfl) (finalF_spec ab3 (by first | omega | simp [-List.reduceReplicate] <;> omega | simp [*, -List.reduceReplicate] <;> omega) _ ) ?_
   clear H; intro w19 H
   simp only [N]
   refine wmv avrow1 ?_; simp only [N]
   refine wl_storeA H 2 rfl rfl rfl rfl (finalF ab3) rfl sz64 ?_
   clear H; intro w20 H; simp only [M] at H
   simp only [N]
   refine wasg avrow1 ?_; simp only [N]
   refine wasg (iv (0 : Int)) ?_; simp only [N]
   refine wpList_nil ?_
   refine wp_ret ?_
   try simp only [Exit.inBlock, Exit.then, cutP]
   refine bodyPost_ret (results3 rfl (rv_aggA H 2 rfl rfl Tryz.underlying64 rfl sz64) (rv_tmp rfl) (rv_tmp rfl)) rfl ?_
   obtain ⟨sl1, hsv1, hsf1⟩ := fresh_row H 0 rfl arow1 rfl rfl eIntN (by first | omega | (simp only [List.length_append, List.length_cons, List.length_nil]; omega))
   subst hsv1
   have hF : (playF p picks.l) = ((finalF ab3), arow1, (0 : Int)) := hFa.trans (bf hc2)
   rw [hF]
   exact ⟨sl1, rfl, H.ext, hsf1⟩

end Go.Proofs.YtimonjemjhecoaaGreatDoor
