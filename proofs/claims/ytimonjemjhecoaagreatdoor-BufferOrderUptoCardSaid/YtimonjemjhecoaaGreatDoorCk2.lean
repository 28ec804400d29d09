/- Walks, printed by a program of this repository (wip/tool). -/
import Derived.Test.YtimonjemjhecoaaGreatDoorCk1
namespace Go.Proofs.YtimonjemjhecoaaGreatDoor
open Go.RowKit
open Go
attribute [local irreducible] wpList wpQuiet wpX Code.wp
set_option maxHeartbeats 1000000
set_option maxRecDepth 100000
set_option linter.unusedSimpArgs false
set_option linter.unusedVariables false

theorem Own.borrow1 {w : World} {b c : Nat} {ob oc : Obj} (h : w.heap[b]? = some ob) (hc : w.heap[c]? = some oc) (hne : c ≠ b) : Own w [b] [fun w => w.heap[c]? = some oc] [.blk b ob] w :=
  Own.borrow_ro h (fun φ hφ w' hw => by
    obtain rfl : φ = fun w => w.heap[c]? = some oc := by simpa using hφ
    exact (hw c (Array.getElem?_eq_some_iff.1 hc).1 hne).trans hc)
def namedS (o : One) (bits : Int) (seen : List Nat) : Ins :=
  { op := o.ins.op, dst := if 0 ∈ seen ∧ (band bits 1 != 0) = true then o.ins.dst else 0, loc := if 1 ∈ seen ∧ (band bits 2 != 0) = true then o.ins.loc else 0, a := if 2 ∈ seen ∧ (band bits 4 != 0) = true then o.ins.a else ⟨false, 0⟩,
    b := if 3 ∈ seen ∧ (band bits 8 != 0) = true then o.ins.b else ⟨false, 0⟩, fn := if 4 ∈ seen ∧ (band bits 16 != 0) = true then o.ins.fn else 0, mode := if 5 ∈ seen ∧ (band bits 32 != 0) = true then o.ins.mode else 0, skip := if 6 ∈ seen ∧ (band bits 64 != 0) = true then o.ins.skip else 0 }
def namedF (o : One) (bits : Int) : Ins := namedS o bits [0, 1, 2, 3, 4, 5, 6]
theorem namedS_all {o : One} {bits : Int} {seen : List Nat} (h : ∀ k, k < 7 → k ∈ seen) : namedS o bits seen = namedF o bits := by
  simp [namedF, namedS, h 0, h 1, h 2, h 3, h 4, h 5, h 6]
def leftN (seen : List Nat) : Nat → Nat
  | 0 => 0
  | n + 1 => leftN seen n + if n ∈ seen then 0 else 1
theorem leftN_le (seen : List Nat) (k : Nat) : ∀ n, leftN (seen ++ [k]) n ≤ leftN seen n
  | 0 => Nat.le_refl _
  | n + 1 => by
    have := leftN_le seen k n
    simp only [leftN, List.mem_append, List.mem_singleton]
    split <;> split <;> first | omega | simp_all
theorem leftN_lt {seen : List Nat} {k : Nat} (hk : k ∉ seen) : ∀ n, k < n → leftN (seen ++ [k]) n < leftN seen n
  | 0, h => by omega
  | n + 1, h => by
    simp only [leftN, List.mem_append, List.mem_singleton]
    rcases Nat.lt_or_ge k n with h1 | h1
    · have := leftN_lt hk n h1
      split <;> split <;> first | omega | simp_all
    · obtain rfl : k = n := by omega
      have := leftN_le seen k k
      simp [hk]
      omega

theorem named1_spec (bo bx : Nat) (o : One) (x : Ins) (To Tx : Nat) (w : World) (ho : w.heap[bo]? = some (.cells o.cells.toArray To (0, 0))) (hx : w.heap[bx]? = some (.cells x.cells.toArray Tx (0, 0))) (hne : bo ≠ bx) :
    Calls Tryz.prog 91 #[.pointer (some ⟨bo, 0, none⟩), .pointer (some ⟨bx, 0, none⟩)] w fun e w' => e = .returned (.tuple #[]) ∧ Chg [bx] w w' ∧ w'.heap[bx]? = some (.cells ({ x with dst := o.ins.dst } : Ins).cells.toArray Tx (0, 0)) := by
 have H := Own.borrow1 hx ho hne
 go_enter Tryz.func91, Tryz.ntmps91
 refine wp_region_lit ?_; refine wr (rp_fieldAddr rfl Tryz.underlying100 rfl 0 rfl sz58 rfl 0 rfl) ?_; simp only [N]
 refine wr (rp_fieldAddr rfl Tryz.underlying58 rfl 1 rfl sz5 rfl 1 rfl) ?_; simp only [N]
 refine wr (rp_load1ro H 0 rfl rfl rfl Tryz.underlying5 rfl (v := bv o.ins.dst) rfl) ?_; simp only [N]
 refine wr (rp_fieldAddr rfl Tryz.underlying58 rfl 1 rfl sz5 rfl 1 rfl) ?_; simp only [N]
 refine wl_store1 H 0 rfl rfl rfl (cs := #[bv x.op, bv x.dst, bv x.loc, .bool x.a.reg, bv x.a.n, .bool x.b.reg, bv x.b.n, bv x.fn, bv x.mode, bv x.skip]) rfl (v := bv o.ins.dst) rfl rfl sz5 (Nat.le_of_ble_eq_true rfl) ?_
 clear H; intro w1 H; simp only [Ms] at H
 simp only [N]
 refine wpList_nil ?_
 try simp only [Exit.inBlock, Exit.then]
 refine bodyPost_end (results_none rfl _ _ _) rfl ?_
 exact ⟨rfl, H.chg, H.blk (i := 0) rfl⟩

theorem named2_spec (bo bx : Nat) (o : One) (x : Ins) (To Tx : Nat) (w : World) (ho : w.heap[bo]? = some (.cells o.cells.toArray To (0, 0))) (hx : w.heap[bx]? = some (.cells x.cells.toArray Tx (0, 0))) (hne : bo ≠ bx) :
    Calls Tryz.prog 92 #[.pointer (some ⟨bo, 0, none⟩), .pointer (some ⟨bx, 0, none⟩)] w fun e w' => e = .returned (.tuple #[]) ∧ Chg [bx] w w' ∧ w'.heap[bx]? = some (.cells ({ x with loc := o.ins.loc } : Ins).cells.toArray Tx (0, 0)) := by
 have H := Own.borrow1 hx ho hne
 go_enter Tryz.func92, Tryz.ntmps92
 refine wp_region_lit ?_; refine wr (rp_fieldAddr rfl Tryz.underlying100 rfl 0 rfl sz58 rfl 0 rfl) ?_; simp only [N]
 refine wr (rp_fieldAddr rfl Tryz.underlying58 rfl 2 rfl sz5 rfl 2 rfl) ?_; simp only [N]
 refine wr (rp_load1ro H 0 rfl rfl rfl Tryz.underlying5 rfl (v := bv o.ins.loc) rfl) ?_; simp only [N]
 refine wr (rp_fieldAddr rfl Tryz.underlying58 rfl 2 rfl sz5 rfl 2 rfl) ?_; simp only [N]
 refine wl_store1 H 0 rfl rfl rfl (cs := #[bv x.op, bv x.dst, bv x.loc, .bool x.a.reg, bv x.a.n, .bool x.b.reg, bv x.b.n, bv x.fn, bv x.mode, bv x.skip]) rfl (v := bv o.ins.loc) rfl rfl sz5 (Nat.le_of_ble_eq_true rfl) ?_
 clear H; intro w1 H; simp only [Ms] at H
 simp only [N]
 refine wpList_nil ?_
 try simp only [Exit.inBlock, Exit.then]
 refine bodyPost_end (results_none rfl _ _ _) rfl ?_
 exact ⟨rfl, H.chg, H.blk (i := 0) rfl⟩

theorem named3_spec (bo bx : Nat) (o : One) (x : Ins) (To Tx : Nat) (w : World) (ho : w.heap[bo]? = some (.cells o.cells.toArray To (0, 0))) (hx : w.heap[bx]? = some (.cells x.cells.toArray Tx (0, 0))) (hne : bo ≠ bx) :
    Calls Tryz.prog 93 #[.pointer (some ⟨bo, 0, none⟩), .pointer (some ⟨bx, 0, none⟩)] w fun e w' => e = .returned (.tuple #[]) ∧ Chg [bx] w w' ∧ w'.heap[bx]? = some (.cells ({ x with a := o.ins.a } : Ins).cells.toArray Tx (0, 0)) := by
 have H := Own.borrow1 hx ho hne
 go_enter Tryz.func93, Tryz.ntmps93
 refine wp_region_lit ?_; refine wr (rp_fieldAddr rfl Tryz.underlying100 rfl 0 rfl sz58 rfl 0 rfl) ?_; simp only [N]
 refine wr (rp_fieldAddr rfl Tryz.underlying58 rfl 3 rfl sz56 rfl 3 rfl) ?_; simp only [N]
 refine wr (rp_loadNro H 0 rfl rfl rfl Tryz.underlying56 rfl sz56 (Nat.le_of_ble_eq_true rfl) (cs' := o.ins.a.cells) rfl) ?_; simp only [N]
 refine wr (rp_fieldAddr rfl Tryz.underlying58 rfl 3 rfl sz56 rfl 3 rfl) ?_; simp only [N]
 refine wl_storeL H 0 rfl rfl rfl (cs := #[bv x.op, bv x.dst, bv x.loc, .bool x.a.reg, bv x.a.n, .bool x.b.reg, bv x.b.n, bv x.fn, bv x.mode, bv x.skip]) rfl (vs := (o.ins.a.cells).toArray) rfl (Arg.cells_one _) (by first | exact sz56 | (rw [sz56]; congr 1; first | omega | simp [LN, enc_length, putAt_length, localF_length] <;> omega)) (Nat.le_of_ble_eq_true rfl) (cs' := #[bv x.op, bv x.dst, bv x.loc, .bool o.ins.a.reg, bv o.ins.a.n, .bool x.b.reg, bv x.b.n, bv x.fn, bv x.mode, bv x.skip]) rfl ?_
 clear H; intro w1 H; simp only [M] at H
 simp only [N]
 refine wpList_nil ?_
 try simp only [Exit.inBlock, Exit.then]
 refine bodyPost_end (results_none rfl _ _ _) rfl ?_
 exact ⟨rfl, H.chg, H.blk (i := 0) rfl⟩

theorem named4_spec (bo bx : Nat) (o : One) (x : Ins) (To Tx : Nat) (w : World) (ho : w.heap[bo]? = some (.cells o.cells.toArray To (0, 0))) (hx : w.heap[bx]? = some (.cells x.cells.toArray Tx (0, 0))) (hne : bo ≠ bx) :
    Calls Tryz.prog 94 #[.pointer (some ⟨bo, 0, none⟩), .pointer (some ⟨bx, 0, none⟩)] w fun e w' => e = .returned (.tuple #[]) ∧ Chg [bx] w w' ∧ w'.heap[bx]? = some (.cells ({ x with b := o.ins.b } : Ins).cells.toArray Tx (0, 0)) := by
 have H := Own.borrow1 hx ho hne
 go_enter Tryz.func94, Tryz.ntmps94
 refine wp_region_lit ?_; refine wr (rp_fieldAddr rfl Tryz.underlying100 rfl 0 rfl sz58 rfl 0 rfl) ?_; simp only [N]
 refine wr (rp_fieldAddr rfl Tryz.underlying58 rfl 5 rfl sz56 rfl 5 rfl) ?_; simp only [N]
 refine wr (rp_loadNro H 0 rfl rfl rfl Tryz.underlying56 rfl sz56 (Nat.le_of_ble_eq_true rfl) (cs' := o.ins.b.cells) rfl) ?_; simp only [N]
 refine wr (rp_fieldAddr rfl Tryz.underlying58 rfl 5 rfl sz56 rfl 5 rfl) ?_; simp only [N]
 refine wl_storeL H 0 rfl rfl rfl (cs := #[bv x.op, bv x.dst, bv x.loc, .bool x.a.reg, bv x.a.n, .bool x.b.reg, bv x.b.n, bv x.fn, bv x.mode, bv x.skip]) rfl (vs := (o.ins.b.cells).toArray) rfl (Arg.cells_one _) (by first | exact sz56 | (rw [sz56]; congr 1; first | omega | simp [LN, enc_length, putAt_length, localF_length] <;> omega)) (Nat.le_of_ble_eq_true rfl) (cs' := #[bv x.op, bv x.dst, bv x.loc, .bool x.a.reg, bv x.a.n, .bool o.ins.b.reg, bv o.ins.b.n, bv x.fn, bv x.mode, bv x.skip]) rfl ?_
 clear H; intro w1 H; simp only [M] at H
 simp only [N]
 refine wpList_nil ?_
 try simp only [Exit.inBlock, Exit.then]
 refine bodyPost_end (results_none rfl _ _ _) rfl ?_
 exact ⟨rfl, H.chg, H.blk (i := 0) rfl⟩

theorem named5_spec (bo bx : Nat) (o : One) (x : Ins) (To Tx : Nat) (w : World) (ho : w.heap[bo]? = some (.cells o.cells.toArray To (0, 0))) (hx : w.heap[bx]? = some (.cells x.cells.toArray Tx (0, 0))) (hne : bo ≠ bx) :
    Calls Tryz.prog 95 #[.pointer (some ⟨bo, 0, none⟩), .pointer (some ⟨bx, 0, none⟩)] w fun e w' => e = .returned (.tuple #[]) ∧ Chg [bx] w w' ∧ w'.heap[bx]? = some (.cells ({ x with fn := o.ins.fn } : Ins).cells.toArray Tx (0, 0)) := by
 have H := Own.borrow1 hx ho hne
 go_enter Tryz.func95, Tryz.ntmps95
 refine wp_region_lit ?_; refine wr (rp_fieldAddr rfl Tryz.underlying100 rfl 0 rfl sz58 rfl 0 rfl) ?_; simp only [N]
 refine wr (rp_fieldAddr rfl Tryz.underlying58 rfl 7 rfl sz5 rfl 7 rfl) ?_; simp only [N]
 refine wr (rp_load1ro H 0 rfl rfl rfl Tryz.underlying5 rfl (v := bv o.ins.fn) rfl) ?_; simp only [N]
 refine wr (rp_fieldAddr rfl Tryz.underlying58 rfl 7 rfl sz5 rfl 7 rfl) ?_; simp only [N]
 refine wl_store1 H 0 rfl rfl rfl (cs := #[bv x.op, bv x.dst, bv x.loc, .bool x.a.reg, bv x.a.n, .bool x.b.reg, bv x.b.n, bv x.fn, bv x.mode, bv x.skip]) rfl (v := bv o.ins.fn) rfl rfl sz5 (Nat.le_of_ble_eq_true rfl) ?_
 clear H; intro w1 H; simp only [Ms] at H
 simp only [N]
 refine wpList_nil ?_
 try simp only [Exit.inBlock, Exit.then]
 refine bodyPost_end (results_none rfl _ _ _) rfl ?_
 exact ⟨rfl, H.chg, H.blk (i := 0) rfl⟩

theorem named6_spec (bo bx : Nat) (o : One) (x : Ins) (To Tx : Nat) (w : World) (ho : w.heap[bo]? = some (.cells o.cells.toArray To (0, 0))) (hx : w.heap[bx]? = some (.cells x.cells.toArray Tx (0, 0))) (hne : bo ≠ bx) :
    Calls Tryz.prog 96 #[.pointer (some ⟨bo, 0, none⟩), .pointer (some ⟨bx, 0, none⟩)] w fun e w' => e = .returned (.tuple #[]) ∧ Chg [bx] w w' ∧ w'.heap[bx]? = some (.cells ({ x with mode := o.ins.mode } : Ins).cells.toArray Tx (0, 0)) := by
 have H := Own.borrow1 hx ho hne
 go_enter Tryz.func96, Tryz.ntmps96
 refine wp_region_lit ?_; refine wr (rp_fieldAddr rfl Tryz.underlying100 rfl 0 rfl sz58 rfl 0 rfl) ?_; simp only [N]
 refine wr (rp_fieldAddr rfl Tryz.underlying58 rfl 8 rfl sz5 rfl 8 rfl) ?_; simp only [N]
 refine wr (rp_load1ro H 0 rfl rfl rfl Tryz.underlying5 rfl (v := bv o.ins.mode) rfl) ?_; simp only [N]
 refine wr (rp_fieldAddr rfl Tryz.underlying58 rfl 8 rfl sz5 rfl 8 rfl) ?_; simp only [N]
 refine wl_store1 H 0 rfl rfl rfl (cs := #[bv x.op, bv x.dst, bv x.loc, .bool x.a.reg, bv x.a.n, .bool x.b.reg, bv x.b.n, bv x.fn, bv x.mode, bv x.skip]) rfl (v := bv o.ins.mode) rfl rfl sz5 (Nat.le_of_ble_eq_true rfl) ?_
 clear H; intro w1 H; simp only [Ms] at H
 simp only [N]
 refine wpList_nil ?_
 try simp only [Exit.inBlock, Exit.then]
 refine bodyPost_end (results_none rfl _ _ _) rfl ?_
 exact ⟨rfl, H.chg, H.blk (i := 0) rfl⟩

theorem named7_spec (bo bx : Nat) (o : One) (x : Ins) (To Tx : Nat) (w : World) (ho : w.heap[bo]? = some (.cells o.cells.toArray To (0, 0))) (hx : w.heap[bx]? = some (.cells x.cells.toArray Tx (0, 0))) (hne : bo ≠ bx) :
    Calls Tryz.prog 97 #[.pointer (some ⟨bo, 0, none⟩), .pointer (some ⟨bx, 0, none⟩)] w fun e w' => e = .returned (.tuple #[]) ∧ Chg [bx] w w' ∧ w'.heap[bx]? = some (.cells ({ x with skip := o.ins.skip } : Ins).cells.toArray Tx (0, 0)) := by
 have H := Own.borrow1 hx ho hne
 go_enter Tryz.func97, Tryz.ntmps97
 refine wp_region_lit ?_; refine wr (rp_fieldAddr rfl Tryz.underlying100 rfl 0 rfl sz58 rfl 0 rfl) ?_; simp only [N]
 refine wr (rp_fieldAddr rfl Tryz.underlying58 rfl 9 rfl sz5 rfl 9 rfl) ?_; simp only [N]
 refine wr (rp_load1ro H 0 rfl rfl rfl Tryz.underlying5 rfl (v := bv o.ins.skip) rfl) ?_; simp only [N]
 refine wr (rp_fieldAddr rfl Tryz.underlying58 rfl 9 rfl sz5 rfl 9 rfl) ?_; simp only [N]
 refine wl_store1 H 0 rfl rfl rfl (cs := #[bv x.op, bv x.dst, bv x.loc, .bool x.a.reg, bv x.a.n, .bool x.b.reg, bv x.b.n, bv x.fn, bv x.mode, bv x.skip]) rfl (v := bv o.ins.skip) rfl rfl sz5 (Nat.le_of_ble_eq_true rfl) ?_
 clear H; intro w1 H; simp only [Ms] at H
 simp only [N]
 refine wpList_nil ?_
 try simp only [Exit.inBlock, Exit.then]
 refine bodyPost_end (results_none rfl _ _ _) rfl ?_
 exact ⟨rfl, H.chg, H.blk (i := 0) rfl⟩

theorem named_spec (o : One) (bits : Int) (w : World) : Calls Tryz.prog 63 #[.agg o.cells.toArray, iv bits] w fun e w' => e = .returned (.agg (namedF o bits).cells.toArray) ∧ Ext w w' := by
 have H := Own.start w
 go_enter Tryz.func63, Tryz.ntmps63
 refine wsr ?_
 refine wl_box H rfl rfl (v := .agg (o.cells).toArray) rfl ?_
 clear H; intro b1 w1 hnb1 H; dsimp only [Value.cells] at H
 simp only [N]
 refine wl_alloc H rfl rfl zv58 ?_
 clear H; intro b2 w2 hnb2 H; dsimp only [Value.cells] at H
 simp only [N]
 refine wnr ?_
 refine wr (rp_fieldAddr rfl Tryz.underlying100 rfl 0 rfl sz58 rfl 0 rfl) ?_; simp only [N]
 refine wr (rp_fieldAddr rfl Tryz.underlying58 rfl 0 rfl sz5 rfl 0 rfl) ?_; simp only [N]
 refine wr (rp_load1 H 1 rfl rfl rfl Tryz.underlying5 rfl (v := bv o.ins.op) rfl) ?_; simp only [N]
 refine wr (rp_build rfl (vs := [(0, bv o.ins.op)]) rfl (cs := #[bv o.ins.op, bv (0 : UInt8), bv (0 : UInt8), .bool false, bv (0 : UInt8), .bool false, bv (0 : UInt8), bv (0 : UInt8), bv (0 : UInt8), bv (0 : UInt8)]) (by kernel_rfl)) ?_; simp only [N]
 refine wl_alloc H rfl rfl zv58 ?_
 clear H; intro b3 w3 hnb3 H; dsimp only [Value.cells] at H
 simp only [N]
 refine wl_storeW H 0 rfl rfl rfl rfl (vs := #[bv o.ins.op, bv (0 : UInt8), bv (0 : UInt8), .bool false, bv (0 : UInt8), .bool false, bv (0 : UInt8), bv (0 : UInt8), bv (0 : UInt8), bv (0 : UInt8)]) rfl (by simp [Value.oneCell']) (by first | exact sz58 | (rw [sz58]; congr 1; first | omega | simp [LN, enc_length, putAt_length, localF_length] <;> omega)) (by first | rfl | first | omega | simp [LN, enc_length, putAt_length, localF_length] <;> omega) ?_
 clear H; intro w4 H; simp only [M] at H
 simp only [N]
 refine wpList_nil ?_
 refine wp_seq ?_; refine wsr ?_
 refine wl_makeMapI H rfl rfl ?_
 clear H; intro b4 w5 _ H
 simp only [N]
 refine wr (rp_makeFuncL rfl (fs := []) (cs := [.pointer (some ⟨b1, 0, none⟩), .pointer (some ⟨b3, 0, none⟩)]) rfl rfl) ?_; simp only [N]
 refine wl_insertI H 0 rfl rfl Tryz.underlying150 Tryz.underlying3 rfl rfl (1 : Int) rfl (v := .func (.func 91) #[] #[.pointer (some ⟨b1, 0, none⟩), .pointer (some ⟨b3, 0, none⟩)]) rfl rfl ?_
 clear H; intro w6 H; simp only [M] at H
 simp only [N]
 refine wr (rp_makeFuncL rfl (fs := []) (cs := [.pointer (some ⟨b1, 0, none⟩), .pointer (some ⟨b3, 0, none⟩)]) rfl rfl) ?_; simp only [N]
 refine wl_insertI H 0 rfl rfl Tryz.underlying150 Tryz.underlying3 rfl rfl (2 : Int) rfl (v := .func (.func 92) #[] #[.pointer (some ⟨b1, 0, none⟩), .pointer (some ⟨b3, 0, none⟩)]) rfl rfl ?_
 clear H; intro w7 H; simp only [M] at H
 simp only [N]
 refine wr (rp_makeFuncL rfl (fs := []) (cs := [.pointer (some ⟨b1, 0, none⟩), .pointer (some ⟨b3, 0, none⟩)]) rfl rfl) ?_; simp only [N]
 refine wl_insertI H 0 rfl rfl Tryz.underlying150 Tryz.underlying3 rfl rfl (4 : Int) rfl (v := .func (.func 93) #[] #[.pointer (some ⟨b1, 0, none⟩), .pointer (some ⟨b3, 0, none⟩)]) rfl rfl ?_
 clear H; intro w8 H; simp only [M] at H
 simp only [N]
 refine wr (rp_makeFuncL rfl (fs := []) (cs := [.pointer (some ⟨b1, 0, none⟩), .pointer (some ⟨b3, 0, none⟩)]) rfl rfl) ?_; simp only [N]
 refine wl_insertI H 0 rfl rfl Tryz.underlying150 Tryz.underlying3 rfl rfl (8 : Int) rfl (v := .func (.func 94) #[] #[.pointer (some ⟨b1, 0, none⟩), .pointer (some ⟨b3, 0, none⟩)]) rfl rfl ?_
 clear H; intro w9 H; simp only [M] at H
 simp only [N]
 refine wr (rp_makeFuncL rfl (fs := []) (cs := [.pointer (some ⟨b1, 0, none⟩), .pointer (some ⟨b3, 0, none⟩)]) rfl rfl) ?_; simp only [N]
 refine wl_insertI H 0 rfl rfl Tryz.underlying150 Tryz.underlying3 rfl rfl (16 : Int) rfl (v := .func (.func 95) #[] #[.pointer (some ⟨b1, 0, none⟩), .pointer (some ⟨b3, 0, none⟩)]) rfl rfl ?_
 clear H; intro w10 H; simp only [M] at H
 simp only [N]
 refine wr (rp_makeFuncL rfl (fs := []) (cs := [.pointer (some ⟨b1, 0, none⟩), .pointer (some ⟨b3, 0, none⟩)]) rfl rfl) ?_; simp only [N]
 refine wl_insertI H 0 rfl rfl Tryz.underlying150 Tryz.underlying3 rfl rfl (32 : Int) rfl (v := .func (.func 96) #[] #[.pointer (some ⟨b1, 0, none⟩), .pointer (some ⟨b3, 0, none⟩)]) rfl rfl ?_
 clear H; intro w11 H; simp only [M] at H
 simp only [N]
 refine wr (rp_makeFuncL rfl (fs := []) (cs := [.pointer (some ⟨b1, 0, none⟩), .pointer (some ⟨b3, 0, none⟩)]) rfl rfl) ?_; simp only [N]
 refine wl_insertI H 0 rfl rfl Tryz.underlying150 Tryz.underlying3 rfl rfl (64 : Int) rfl (v := .func (.func 97) #[] #[.pointer (some ⟨b1, 0, none⟩), .pointer (some ⟨b3, 0, none⟩)]) rfl rfl ?_
 clear H; intro w12 H; simp only [M] at H
 simp only [N]
 refine wmv (.map (some b4)) ?_; simp only [N]
 refine wl_rangeI H 0 rfl rfl Tryz.underlying150 rfl rfl ?_
 clear H; intro b5 w13 hnb5 H; simp only [List.length_append, List.length_nil, List.length_cons, Nat.reduceAdd] at H
 simp only [N]
 refine wpList_nil ?_
 refine wp_block ?_
 refine wp_loopX (fun m' a' w' => ∃ (seen : List Nat) (u6 u7 u22 u23 u24 u25 u26 u27 u28 u29 u30 u31 u32 : Value), a' = ⟨#[.agg (o.cells).toArray, iv bits, .pointer (some ⟨b1, 0, none⟩), uU, .pointer (some ⟨b2, 0, none⟩), .pointer (some ⟨b3, 0, none⟩), u6, u7, .pointer (some ⟨b1, 0, none⟩), .pointer (some ⟨b1, 0, none⟩), bv o.ins.op, .agg #[bv o.ins.op, bv (0 : UInt8), bv (0 : UInt8), .bool false, bv (0 : UInt8), .bool false, bv (0 : UInt8), bv (0 : UInt8), bv (0 : UInt8), bv (0 : UInt8)], .map (some b4), .func (.func 91) #[] #[.pointer (some ⟨b1, 0, none⟩), .pointer (some ⟨b3, 0, none⟩)], .func (.func 92) #[] #[.pointer (some ⟨b1, 0, none⟩), .pointer (some ⟨b3, 0, none⟩)], .func (.func 93) #[] #[.pointer (some ⟨b1, 0, none⟩), .pointer (some ⟨b3, 0, none⟩)], .func (.func 94) #[] #[.pointer (some ⟨b1, 0, none⟩), .pointer (some ⟨b3, 0, none⟩)], .func (.func 95) #[] #[.pointer (some ⟨b1, 0, none⟩), .pointer (some ⟨b3, 0, none⟩)], .func (.func 96) #[] #[.pointer (some ⟨b1, 0, none⟩), .pointer (some ⟨b3, 0, none⟩)], .func (.func 97) #[] #[.pointer (some ⟨b1, 0, none⟩), .pointer (some ⟨b3, 0, none⟩)], .map (some b4), .pointer (some ⟨b5, 0, none⟩), u22, u23, u24, u25, u26, u27, u28, u29, u30, u31, u32, uU], []⟩ ∧ Own w [] [] [.blk b5 (itobj b4 7 seen), .blk b4 (iobj ([] ++ [((1 : Int), .func (.func 91) #[] #[.pointer (some ⟨b1, 0, none⟩), .pointer (some ⟨b3, 0, none⟩)])] ++ [((2 : Int), .func (.func 92) #[] #[.pointer (some ⟨b1, 0, none⟩), .pointer (some ⟨b3, 0, none⟩)])] ++ [((4 : Int), .func (.func 93) #[] #[.pointer (some ⟨b1, 0, none⟩), .pointer (some ⟨b3, 0, none⟩)])] ++ [((8 : Int), .func (.func 94) #[] #[.pointer (some ⟨b1, 0, none⟩), .pointer (some ⟨b3, 0, none⟩)])] ++ [((16 : Int), .func (.func 95) #[] #[.pointer (some ⟨b1, 0, none⟩), .pointer (some ⟨b3, 0, none⟩)])] ++ [((32 : Int), .func (.func 96) #[] #[.pointer (some ⟨b1, 0, none⟩), .pointer (some ⟨b3, 0, none⟩)])] ++ [((64 : Int), .func (.func 97) #[] #[.pointer (some ⟨b1, 0, none⟩), .pointer (some ⟨b3, 0, none⟩)])])), .blk b3 (.cells ((namedS o bits seen).cells).toArray 58 (0, 0)), .blk b2 (.cells #[bv (0 : UInt8), bv (0 : UInt8), bv (0 : UInt8), .bool false, bv (0 : UInt8), .bool false, bv (0 : UInt8), bv (0 : UInt8), bv (0 : UInt8), bv (0 : UInt8)] 58 (0, 0)), .blk b1 (.cells (o.cells).toArray 100 (0, 0))] w' ∧ m' = leftN seen 7) _ ⟨[], _, _, _, _, _, _, _, _, _, _, _, _, _, rfl, H, rfl⟩ ?_
 clear H
 rintro _ _ w14 ⟨seen, u6, u7, u22, u23, u24, u25, u26, u27, u28, u29, u30, u31, u32, rfl, H, rfl⟩
 refine wsr ?_
 refine wl_nextI H 0 1 rfl rfl rfl rfl rfl ?_ ?_
 · --over
  clear H; intro w15 hall H
  simp only [N]
  refine wr (rp_extract rfl rfl (v := .bool false) rfl) ?_; simp only [N]
  refine wpList_nil ?_
  refine wp_seq ?_; refine wp_cond_false rfl ?_
  refine wp_exit ?_
  refine wsr ?_
  refine wr (rp_loadN H 2 rfl rfl rfl Tryz.underlying58 rfl sz58 (Nat.le_of_ble_eq_true rfl) (cs' := (namedS o bits seen).cells) rfl) ?_; simp only [N]
  refine wl_storeW H 3 rfl rfl rfl rfl (vs := ((namedS o bits seen).cells).toArray) rfl (Ins.cells_one _) (by first | exact sz58 | (rw [sz58]; congr 1; first | omega | simp [LN, enc_length, putAt_length, localF_length] <;> omega)) (by first | rfl | first | omega | simp [LN, enc_length, putAt_length, localF_length] <;> omega) ?_
  clear H; intro w16 H; simp only [M] at H
  simp only [N]
  refine wpList_nil ?_
  refine wp_ret ?_
  try simp only [Exit.inBlock, Exit.then]
  refine bodyPost_ret (results1 rfl (rv_agg H 3 rfl rfl Tryz.underlying58 rfl (by first | exact sz58 | (rw [sz58]; congr 1; first | omega | simp [LN, enc_length, putAt_length, localF_length] <;> omega)))) rfl ?_
  exact ⟨by rw [← namedS_all (seen := seen) (fun k hk => hall k hk)], H.ext⟩
 · --next
  clear H; intro k e w17 hk hks H; simp only [M] at H
  have hk7 : k < 7 := (List.getElem?_eq_some_iff.1 hk).1
  rcases (by omega : k = 0 ∨ k = 1 ∨ k = 2 ∨ k = 3 ∨ k = 4 ∨ k = 5 ∨ k = 6) with rfl | rfl | rfl | rfl | rfl | rfl | rfl
  · --entry 0
   obtain rfl := Option.some.inj (show some ((1 : Int), .func (.func 91) #[] #[.pointer (some ⟨b1, 0, none⟩), .pointer (some ⟨b3, 0, none⟩)]) = some e from hk)
   simp only [N]
   refine wr (rp_extract rfl rfl (v := .bool true) rfl) ?_; simp only [N]
   refine wpList_nil ?_
   refine wp_seq ?_; refine wp_cond_true rfl ?_
   refine wp_skip ?_
   refine wp_block ?_
   refine wsr ?_
   refine wr (rp_entryI H 0 1 rfl rfl rfl rfl (e := ((1 : Int), .func (.func 91) #[] #[.pointer (some ⟨b1, 0, none⟩), .pointer (some ⟨b3, 0, none⟩)])) rfl) ?_; simp only [N]
   refine wr (rp_extract rfl rfl (v := iv (1 : Int)) rfl) ?_; simp only [N]
   refine wr (rp_extract rfl rfl (v := .func (.func 91) #[] #[.pointer (some ⟨b1, 0, none⟩), .pointer (some ⟨b3, 0, none⟩)]) rfl) ?_; simp only [N]
   refine wasg (iv (1 : Int)) ?_; simp only [N]
   refine wasg (.func (.func 91) #[] #[.pointer (some ⟨b1, 0, none⟩), .pointer (some ⟨b3, 0, none⟩)]) ?_; simp only [N]
   refine wnr ?_
   refine wmv (iv bits) ?_; simp only [N]
   refine wmv (iv (1 : Int)) ?_; simp only [N]
   refine wr (rp_int_and rfl bits (1 : Int) rfl rfl) ?_; simp only [N]
   refine wr (rp_int_neq rfl (band bits (1 : Int)) (0 : Int) rfl rfl) ?_; simp only [N]
   refine wpList_nil ?_
   refine wp_cond_split rfl (fun hc3 => ?_) (fun hc3 => ?_)
   · --T 3
    have hc3N : (band bits (1 : Int)) ≠ (0 : Int) := by simpa using hc3
    refine wp_region_lit ?_; refine wmv (.func (.func 91) #[] #[.pointer (some ⟨b1, 0, none⟩), .pointer (some ⟨b3, 0, none⟩)]) ?_; simp only [N]
    refine wl_callP H 2 rfl (rc_fn rfl Tryz.func91 (by kernel_rfl) rfl) rfl (named1_spec _ _ o (namedS o bits seen) _ _ _ (H.blk (i := 4) rfl) (H.blk (i := 2) rfl) (H.ne 4 2 rfl rfl (by decide))) ?_
    clear H; intro w18 H; simp only [M] at H
    simp only [N]
    refine wpList_nil ?_
    have e1 : ({ (namedS o bits seen) with dst := o.ins.dst } : Ins) = namedS o bits (seen ++ [0]) := by simp [namedS, show (band bits 1 != 0) = true from hc3]
    rw [e1] at H
    show ∃ n', n' < _ ∧ _
    refine ⟨_, ?_, (seen ++ [0]), _, _, _, _, _, _, _, _, _, _, _, _, _, rfl, H, rfl⟩
    · exact leftN_lt hks 7 (by omega)
   · --F 3
    have hc3N : (band bits (1 : Int)) = (0 : Int) := by simpa using hc3
    refine wp_skip ?_
    have e1 : (namedS o bits seen) = namedS o bits (seen ++ [0]) := by simp [namedS, show (band bits 1 != 0) = false from hc3]
    rw [e1] at H
    show ∃ n', n' < _ ∧ _
    refine ⟨_, ?_, (seen ++ [0]), _, _, _, _, _, _, _, _, _, _, _, _, _, rfl, H, rfl⟩
    · exact leftN_lt hks 7 (by omega)
  · --entry 1
   obtain rfl := Option.some.inj (show some ((2 : Int), .func (.func 92) #[] #[.pointer (some ⟨b1, 0, none⟩), .pointer (some ⟨b3, 0, none⟩)]) = some e from hk)
   simp only [N]
   refine wr (rp_extract rfl rfl (v := .bool true) rfl) ?_; simp only [N]
   refine wpList_nil ?_
   refine wp_seq ?_; refine wp_cond_true rfl ?_
   refine wp_skip ?_
   refine wp_block ?_
   refine wsr ?_
   refine wr (rp_entryI H 0 1 rfl rfl rfl rfl (e := ((2 : Int), .func (.func 92) #[] #[.pointer (some ⟨b1, 0, none⟩), .pointer (some ⟨b3, 0, none⟩)])) rfl) ?_; simp only [N]
   refine wr (rp_extract rfl rfl (v := iv (2 : Int)) rfl) ?_; simp only [N]
   refine wr (rp_extract rfl rfl (v := .func (.func 92) #[] #[.pointer (some ⟨b1, 0, none⟩), .pointer (some ⟨b3, 0, none⟩)]) rfl) ?_; simp only [N]
   refine wasg (iv (2 : Int)) ?_; simp only [N]
   refine wasg (.func (.func 92) #[] #[.pointer (some ⟨b1, 0, none⟩), .pointer (some ⟨b3, 0, none⟩)]) ?_; simp only [N]
   refine wnr ?_
   refine wmv (iv bits) ?_; simp only [N]
   refine wmv (iv (2 : Int)) ?_; simp only [N]
   refine wr (rp_int_and rfl bits (2 : Int) rfl rfl) ?_; simp only [N]
   refine wr (rp_int_neq rfl (band bits (2 : Int)) (0 : Int) rfl rfl) ?_; simp only [N]
   refine wpList_nil ?_
   refine wp_cond_split rfl (fun hc5 => ?_) (fun hc5 => ?_)
   · --T 5
    have hc5N : (band bits (2 : Int)) ≠ (0 : Int) := by simpa using hc5
    refine wp_region_lit ?_; refine wmv (.func (.func 92) #[] #[.pointer (some ⟨b1, 0, none⟩), .pointer (some ⟨b3, 0, none⟩)]) ?_; simp only [N]
    refine wl_callP H 2 rfl (rc_fn rfl Tryz.func92 (by kernel_rfl) rfl) rfl (named2_spec _ _ o (namedS o bits seen) _ _ _ (H.blk (i := 4) rfl) (H.blk (i := 2) rfl) (H.ne 4 2 rfl rfl (by decide))) ?_
    clear H; intro w19 H; simp only [M] at H
    simp only [N]
    refine wpList_nil ?_
    have e1 : ({ (namedS o bits seen) with loc := o.ins.loc } : Ins) = namedS o bits (seen ++ [1]) := by simp [namedS, show (band bits 2 != 0) = true from hc5]
    rw [e1] at H
    show ∃ n', n' < _ ∧ _
    refine ⟨_, ?_, (seen ++ [1]), _, _, _, _, _, _, _, _, _, _, _, _, _, rfl, H, rfl⟩
    · exact leftN_lt hks 7 (by omega)
   · --F 5
    have hc5N : (band bits (2 : Int)) = (0 : Int) := by simpa using hc5
    refine wp_skip ?_
    have e1 : (namedS o bits seen) = namedS o bits (seen ++ [1]) := by simp [namedS, show (band bits 2 != 0) = false from hc5]
    rw [e1] at H
    show ∃ n', n' < _ ∧ _
    refine ⟨_, ?_, (seen ++ [1]), _, _, _, _, _, _, _, _, _, _, _, _, _, rfl, H, rfl⟩
    · exact leftN_lt hks 7 (by omega)
  · --entry 2
   obtain rfl := Option.some.inj (show some ((4 : Int), .func (.func 93) #[] #[.pointer (some ⟨b1, 0, none⟩), .pointer (some ⟨b3, 0, none⟩)]) = some e from hk)
   simp only [N]
   refine wr (rp_extract rfl rfl (v := .bool true) rfl) ?_; simp only [N]
   refine wpList_nil ?_
   refine wp_seq ?_; refine wp_cond_true rfl ?_
   refine wp_skip ?_
   refine wp_block ?_
   refine wsr ?_
   refine wr (rp_entryI H 0 1 rfl rfl rfl rfl (e := ((4 : Int), .func (.func 93) #[] #[.pointer (some ⟨b1, 0, none⟩), .pointer (some ⟨b3, 0, none⟩)])) rfl) ?_; simp only [N]
   refine wr (rp_extract rfl rfl (v := iv (4 : Int)) rfl) ?_; simp only [N]
   refine wr (rp_extract rfl rfl (v := .func (.func 93) #[] #[.pointer (some ⟨b1, 0, none⟩), .pointer (some ⟨b3, 0, none⟩)]) rfl) ?_; simp only [N]
   refine wasg (iv (4 : Int)) ?_; simp only [N]
   refine wasg (.func (.func 93) #[] #[.pointer (some ⟨b1, 0, none⟩), .pointer (some ⟨b3, 0, none⟩)]) ?_; simp only [N]
   refine wnr ?_
   refine wmv (iv bits) ?_; simp only [N]
   refine wmv (iv (4 : Int)) ?_; simp only [N]
   refine wr (rp_int_and rfl bits (4 : Int) rfl rfl) ?_; simp only [N]
   refine wr (rp_int_neq rfl (band bits (4 : Int)) (0 : Int) rfl rfl) ?_; simp only [N]
   refine wpList_nil ?_
   refine wp_cond_split rfl (fun hc7 => ?_) (fun hc7 => ?_)
   · --T 7
    have hc7N : (band bits (4 : Int)) ≠ (0 : Int) := by simpa using hc7
    refine wp_region_lit ?_; refine wmv (.func (.func 93) #[] #[.pointer (some ⟨b1, 0, none⟩), .pointer (some ⟨b3, 0, none⟩)]) ?_; simp only [N]
    refine wl_callP H 2 rfl (rc_fn rfl Tryz.func93 (by kernel_rfl) rfl) rfl (named3_spec _ _ o (namedS o bits seen) _ _ _ (H.blk (i := 4) rfl) (H.blk (i := 2) rfl) (H.ne 4 2 rfl rfl (by decide))) ?_
    clear H; intro w20 H; simp only [M] at H
    simp only [N]
    refine wpList_nil ?_
    have e1 : ({ (namedS o bits seen) with a := o.ins.a } : Ins) = namedS o bits (seen ++ [2]) := by simp [namedS, show (band bits 4 != 0) = true from hc7]
    rw [e1] at H
    show ∃ n', n' < _ ∧ _
    refine ⟨_, ?_, (seen ++ [2]), _, _, _, _, _, _, _, _, _, _, _, _, _, rfl, H, rfl⟩
    · exact leftN_lt hks 7 (by omega)
   · --F 7
    have hc7N : (band bits (4 : Int)) = (0 : Int) := by simpa using hc7
    refine wp_skip ?_
    have e1 : (namedS o bits seen) = namedS o bits (seen ++ [2]) := by simp [namedS, show (band bits 4 != 0) = false from hc7]
    rw [e1] at H
    show ∃ n', n' < _ ∧ _
    refine ⟨_, ?_, (seen ++ [2]), _, _, _, _, _, _, _, _, _, _, _, _, _, rfl, H, rfl⟩
    · exact leftN_lt hks 7 (by omega)
  · --entry 3
   obtain rfl := Option.some.inj (show some ((8 : Int), .func (.func 94) #[] #[.pointer (some ⟨b1, 0, none⟩), .pointer (some ⟨b3, 0, none⟩)]) = some e from hk)
   simp only [N]
   refine wr (rp_extract rfl rfl (v := .bool true) rfl) ?_; simp only [N]
   refine wpList_nil ?_
   refine wp_seq ?_; refine wp_cond_true rfl ?_
   refine wp_skip ?_
   refine wp_block ?_
   refine wsr ?_
   refine wr (rp_entryI H 0 1 rfl rfl rfl rfl (e := ((8 : Int), .func (.func 94) #[] #[.pointer (some ⟨b1, 0, none⟩), .pointer (some ⟨b3, 0, none⟩)])) rfl) ?_; simp only [N]
   refine wr (rp_extract rfl rfl (v := iv (8 : Int)) rfl) ?_; simp only [N]
   refine wr (rp_extract rfl rfl (v := .func (.func 94) #[] #[.pointer (some ⟨b1, 0, none⟩), .pointer (some ⟨b3, 0, none⟩)]) rfl) ?_; simp only [N]
   refine wasg (iv (8 : Int)) ?_; simp only [N]
   refine wasg (.func (.func 94) #[] #[.pointer (some ⟨b1, 0, none⟩), .pointer (some ⟨b3, 0, none⟩)]) ?_; simp only [N]
   refine wnr ?_
   refine wmv (iv bits) ?_; simp only [N]
   refine wmv (iv (8 : Int)) ?_; simp only [N]
   refine wr (rp_int_and rfl bits (8 : Int) rfl rfl) ?_; simp only [N]
   refine wr (rp_int_neq rfl (band bits (8 : Int)) (0 : Int) rfl rfl) ?_; simp only [N]
   refine wpList_nil ?_
   refine wp_cond_split rfl (fun hc9 => ?_) (fun hc9 => ?_)
   · --T 9
    have hc9N : (band bits (8 : Int)) ≠ (0 : Int) := by simpa using hc9
    refine wp_region_lit ?_; refine wmv (.func (.func 94) #[] #[.pointer (some ⟨b1, 0, none⟩), .pointer (some ⟨b3, 0, none⟩)]) ?_; simp only [N]
    refine wl_callP H 2 rfl (rc_fn rfl Tryz.func94 (by kernel_rfl) rfl) rfl (named4_spec _ _ o (namedS o bits seen) _ _ _ (H.blk (i := 4) rfl) (H.blk (i := 2) rfl) (H.ne 4 2 rfl rfl (by decide))) ?_
    clear H; intro w21 H; simp only [M] at H
    simp only [N]
    refine wpList_nil ?_
    have e1 : ({ (namedS o bits seen) with b := o.ins.b } : Ins) = namedS o bits (seen ++ [3]) := by simp [namedS, show (band bits 8 != 0) = true from hc9]
    rw [e1] at H
    show ∃ n', n' < _ ∧ _
    refine ⟨_, ?_, (seen ++ [3]), _, _, _, _, _, _, _, _, _, _, _, _, _, rfl, H, rfl⟩
    · exact leftN_lt hks 7 (by omega)
   · --F 9
    have hc9N : (band bits (8 : Int)) = (0 : Int) := by simpa using hc9
    refine wp_skip ?_
    have e1 : (namedS o bits seen) = namedS o bits (seen ++ [3]) := by simp [namedS, show (band bits 8 != 0) = false from hc9]
    rw [e1] at H
    show ∃ n', n' < _ ∧ _
    refine ⟨_, ?_, (seen ++ [3]), _, _, _, _, _, _, _, _, _, _, _, _, _, rfl, H, rfl⟩
    · exact leftN_lt hks 7 (by omega)
  · --entry 4
   obtain rfl := Option.some.inj (show some ((16 : Int), .func (.func 95) #[] #[.pointer (some ⟨b1, 0, none⟩), .pointer (some ⟨b3, 0, none⟩)]) = some e from hk)
   simp only [N]
   refine wr (rp_extract rfl rfl (v := .bool true) rfl) ?_; simp only [N]
   refine wpList_nil ?_
   refine wp_seq ?_; refine wp_cond_true rfl ?_
   refine wp_skip ?_
   refine wp_block ?_
   refine wsr ?_
   refine wr (rp_entryI H 0 1 rfl rfl rfl rfl (e := ((16 : Int), .func (.func 95) #[] #[.pointer (some ⟨b1, 0, none⟩), .pointer (some ⟨b3, 0, none⟩)])) rfl) ?_; simp only [N]
   refine wr (rp_extract rfl rfl (v := iv (16 : Int)) rfl) ?_; simp only [N]
   refine wr (rp_extract rfl rfl (v := .func (.func 95) #[] #[.pointer (some ⟨b1, 0, none⟩), .pointer (some ⟨b3, 0, none⟩)]) rfl) ?_; simp only [N]
   refine wasg (iv (16 : Int)) ?_; simp only [N]
   refine wasg (.func (.func 95) #[] #[.pointer (some ⟨b1, 0, none⟩), .pointer (some ⟨b3, 0, none⟩)]) ?_; simp only [N]
   refine wnr ?_
   refine wmv (iv bits) ?_; simp only [N]
   refine wmv (iv (16 : Int)) ?_; simp only [N]
   refine wr (rp_int_and rfl bits (16 : Int) rfl rfl) ?_; simp only [N]
   refine wr (rp_int_neq rfl (band bits (16 : Int)) (0 : Int) rfl rfl) ?_; simp only [N]
   refine wpList_nil ?_
   refine wp_cond_split rfl (fun hc11 => ?_) (fun hc11 => ?_)
   · --T 11
    have hc11N : (band bits (16 : Int)) ≠ (0 : Int) := by simpa using hc11
    refine wp_region_lit ?_; refine wmv (.func (.func 95) #[] #[.pointer (some ⟨b1, 0, none⟩), .pointer (some ⟨b3, 0, none⟩)]) ?_; simp only [N]
    refine wl_callP H 2 rfl (rc_fn rfl Tryz.func95 (by kernel_rfl) rfl) rfl (named5_spec _ _ o (namedS o bits seen) _ _ _ (H.blk (i := 4) rfl) (H.blk (i := 2) rfl) (H.ne 4 2 rfl rfl (by decide))) ?_
    clear H; intro w22 H; simp only [M] at H
    simp only [N]
    refine wpList_nil ?_
    have e1 : ({ (namedS o bits seen) with fn := o.ins.fn } : Ins) = namedS o bits (seen ++ [4]) := by simp [namedS, show (band bits 16 != 0) = true from hc11]
    rw [e1] at H
    show ∃ n', n' < _ ∧ _
    refine ⟨_, ?_, (seen ++ [4]), _, _, _, _, _, _, _, _, _, _, _, _, _, rfl, H, rfl⟩
    · exact leftN_lt hks 7 (by omega)
   · --F 11
    have hc11N : (band bits (16 : Int)) = (0 : Int) := by simpa using hc11
    refine wp_skip ?_
    have e1 : (namedS o bits seen) = namedS o bits (seen ++ [4]) := by simp [namedS, show (band bits 16 != 0) = false from hc11]
    rw [e1] at H
    show ∃ n', n' < _ ∧ _
    refine ⟨_, ?_, (seen ++ [4]), _, _, _, _, _, _, _, _, _, _, _, _, _, rfl, H, rfl⟩
    · exact leftN_lt hks 7 (by omega)
  · --entry 5
   obtain rfl := Option.some.inj (show some ((32 : Int), .func (.func 96) #[] #[.pointer (some ⟨b1, 0, none⟩), .pointer (some ⟨b3, 0, none⟩)]) = some e from hk)
   simp only [N]
   refine wr (rp_extract rfl rfl (v := .bool true) rfl) ?_; simp only [N]
   refine wpList_nil ?_
   refine wp_seq ?_; refine wp_cond_true rfl ?_
   refine wp_skip ?_
   refine wp_block ?_
   refine wsr ?_
   refine wr (rp_entryI H 0 1 rfl rfl rfl rfl (e := ((32 : Int), .func (.func 96) #[] #[.pointer (some ⟨b1, 0, none⟩), .pointer (some ⟨b3, 0, none⟩)])) rfl) ?_; simp only [N]
   refine wr (rp_extract rfl rfl (v := iv (32 : Int)) rfl) ?_; simp only [N]
   refine wr (rp_extract rfl rfl (v := .func (.func 96) #[] #[.pointer (some ⟨b1, 0, none⟩), .pointer (some ⟨b3, 0, none⟩)]) rfl) ?_; simp only [N]
   refine wasg (iv (32 : Int)) ?_; simp only [N]
   refine wasg (.func (.func 96) #[] #[.pointer (some ⟨b1, 0, none⟩), .pointer (some ⟨b3, 0, none⟩)]) ?_; simp only [N]
   refine wnr ?_
   refine wmv (iv bits) ?_; simp only [N]
   refine wmv (iv (32 : Int)) ?_; simp only [N]
   refine wr (rp_int_and rfl bits (32 : Int) rfl rfl) ?_; simp only [N]
   refine wr (rp_int_neq rfl (band bits (32 : Int)) (0 : Int) rfl rfl) ?_; simp only [N]
   refine wpList_nil ?_
   refine wp_cond_split rfl (fun hc13 => ?_) (fun hc13 => ?_)
   · --T 13
    have hc13N : (band bits (32 : Int)) ≠ (0 : Int) := by simpa using hc13
    refine wp_region_lit ?_; refine wmv (.func (.func 96) #[] #[.pointer (some ⟨b1, 0, none⟩), .pointer (some ⟨b3, 0, none⟩)]) ?_; simp only [N]
    refine wl_callP H 2 rfl (rc_fn rfl Tryz.func96 (by kernel_rfl) rfl) rfl (named6_spec _ _ o (namedS o bits seen) _ _ _ (H.blk (i := 4) rfl) (H.blk (i := 2) rfl) (H.ne 4 2 rfl rfl (by decide))) ?_
    clear H; intro w23 H; simp only [M] at H
    simp only [N]
    refine wpList_nil ?_
    have e1 : ({ (namedS o bits seen) with mode := o.ins.mode } : Ins) = namedS o bits (seen ++ [5]) := by simp [namedS, show (band bits 32 != 0) = true from hc13]
    rw [e1] at H
    show ∃ n', n' < _ ∧ _
    refine ⟨_, ?_, (seen ++ [5]), _, _, _, _, _, _, _, _, _, _, _, _, _, rfl, H, rfl⟩
    · exact leftN_lt hks 7 (by omega)
   · --F 13
    have hc13N : (band bits (32 : Int)) = (0 : Int) := by simpa using hc13
    refine wp_skip ?_
    have e1 : (namedS o bits seen) = namedS o bits (seen ++ [5]) := by simp [namedS, show (band bits 32 != 0) = false from hc13]
    rw [e1] at H
    show ∃ n', n' < _ ∧ _
    refine ⟨_, ?_, (seen ++ [5]), _, _, _, _, _, _, _, _, _, _, _, _, _, rfl, H, rfl⟩
    · exact leftN_lt hks 7 (by omega)
  · --entry 6
   obtain rfl := Option.some.inj (show some ((64 : Int), .func (.func 97) #[] #[.pointer (some ⟨b1, 0, none⟩), .pointer (some ⟨b3, 0, none⟩)]) = some e from hk)
   simp only [N]
   refine wr (rp_extract rfl rfl (v := .bool true) rfl) ?_; simp only [N]
   refine wpList_nil ?_
   refine wp_seq ?_; refine wp_cond_true rfl ?_
   refine wp_skip ?_
   refine wp_block ?_
   refine wsr ?_
   refine wr (rp_entryI H 0 1 rfl rfl rfl rfl (e := ((64 : Int), .func (.func 97) #[] #[.pointer (some ⟨b1, 0, none⟩), .pointer (some ⟨b3, 0, none⟩)])) rfl) ?_; simp only [N]
   refine wr (rp_extract rfl rfl (v := iv (64 : Int)) rfl) ?_; simp only [N]
   refine wr (rp_extract rfl rfl (v := .func (.func 97) #[] #[.pointer (some ⟨b1, 0, none⟩), .pointer (some ⟨b3, 0, none⟩)]) rfl) ?_; simp only [N]
   refine wasg (iv (64 : Int)) ?_; simp only [N]
   refine wasg (.func (.func 97) #[] #[.pointer (some ⟨b1, 0, none⟩), .pointer (some ⟨b3, 0, none⟩)]) ?_; simp only [N]
   refine wnr ?_
   refine wmv (iv bits) ?_; simp only [N]
   refine wmv (iv (64 : Int)) ?_; simp only [N]
   refine wr (rp_int_and rfl bits (64 : Int) rfl rfl) ?_; simp only [N]
   refine wr (rp_int_neq rfl (band bits (64 : Int)) (0 : Int) rfl rfl) ?_; simp only [N]
   refine wpList_nil ?_
   refine wp_cond_split rfl (fun hc15 => ?_) (fun hc15 => ?_)
   · --T 15
    have hc15N : (band bits (64 : Int)) ≠ (0 : Int) := by simpa using hc15
    refine wp_region_lit ?_; refine wmv (.func (.func 97) #[] #[.pointer (some ⟨b1, 0, none⟩), .pointer (some ⟨b3, 0, none⟩)]) ?_; simp only [N]
    refine wl_callP H 2 rfl (rc_fn rfl Tryz.func97 (by kernel_rfl) rfl) rfl (named7_spec _ _ o (namedS o bits seen) _ _ _ (H.blk (i := 4) rfl) (H.blk (i := 2) rfl) (H.ne 4 2 rfl rfl (by decide))) ?_
    clear H; intro w24 H; simp only [M] at H
    simp only [N]
    refine wpList_nil ?_
    have e1 : ({ (namedS o bits seen) with skip := o.ins.skip } : Ins) = namedS o bits (seen ++ [6]) := by simp [namedS, show (band bits 64 != 0) = true from hc15]
    rw [e1] at H
    show ∃ n', n' < _ ∧ _
    refine ⟨_, ?_, (seen ++ [6]), _, _, _, _, _, _, _, _, _, _, _, _, _, rfl, H, rfl⟩
    · exact leftN_lt hks 7 (by omega)
   · --F 15
    have hc15N : (band bits (64 : Int)) = (0 : Int) := by simpa using hc15
    refine wp_skip ?_
    have e1 : (namedS o bits seen) = namedS o bits (seen ++ [6]) := by simp [namedS, show (band bits 64 != 0) = false from hc15]
    rw [e1] at H
    show ∃ n', n' < _ ∧ _
    refine ⟨_, ?_, (seen ++ [6]), _, _, _, _, _, _, _, _, _, _, _, _, _, rfl, H, rfl⟩
    · exact leftN_lt hks 7 (by omega)

theorem u8_cast {x y : UInt8} : ((x.toNat : Int) = y.toNat) ↔ x = y := by
  rw [← UInt8.toNat_inj]; omega
theorem Ins.cells_iff (i j : Ins) : decide (i = j) = true ↔ i.cells = j.cells := by
  obtain ⟨o1, d1, l1, ⟨r1, n1⟩, ⟨r2, n2⟩, f1, m1, s1⟩ := i
  obtain ⟨o2, d2, l2, ⟨r3, n3⟩, ⟨r4, n4⟩, f2, m2, s2⟩ := j
  simp [Ins.cells, u8_cast, and_assoc]

theorem may1_spec (bo To : Nat) (o : One) (bb Tb : Nat) (bits : Int) (w : World) (ho : w.heap[bo]? = some (.cells o.cells.toArray To (0, 0))) (hb : w.heap[bb]? = some (.cells #[iv bits] Tb (0, 0))) :
    Calls Tryz.prog 62 #[.pointer (some ⟨bo, 0, none⟩), .pointer (some ⟨bb, 0, none⟩)] w fun e w' => e = .returned (.bool (decide (o.ins = namedF o bits))) ∧ Ext w w' := by
 have H := Own.start_blks w [(bo, .cells o.cells.toArray To (0, 0)), (bb, .cells #[iv bits] Tb (0, 0))] (by simp [ho, hb])
 go_enter Tryz.func62, Tryz.ntmps62
 refine wsr ?_
 refine wasg (.bool false) ?_; simp only [N]
 refine wpList_nil ?_
 refine wp_seq ?_; refine wp_region_own H (by kernel_rfl) (by kernel_rfl) ?_
 refine wq_run rfl (fun w H => rp_fieldAddr rfl Tryz.underlying100 rfl 0 rfl sz58 rfl 0 rfl) ?_; simp only [N]
 refine wq_run rfl (fun w H => rp_loadNro H 0 rfl rfl rfl Tryz.underlying58 rfl sz58 (Nat.le_of_ble_eq_true rfl) (cs' := o.ins.cells) rfl) ?_; simp only [N]
 refine wq_run rfl (fun w H => rp_loadNro H 0 rfl rfl rfl Tryz.underlying100 rfl sz100 (Nat.le_of_ble_eq_true rfl) (cs' := o.cells) rfl) ?_; simp only [N]
 refine wq_run rfl (fun w H => rp_load1ro H 1 rfl rfl rfl Tryz.underlying3 rfl (v := iv bits) rfl) ?_; simp only [N]
 refine wq_call rfl (rc_go Tryz.func63 (by kernel_rfl) rfl) (fun w H => named_spec o bits _) ?_; simp only [N]
 refine wq_run rfl (fun w H => rp_eql_leafs rfl 6 (by decide) (by kernel_rfl) (by kernel_rfl) (ks := [.int .u8, .int .u8, .int .u8, .bool, .int .u8, .bool, .int .u8, .int .u8, .int .u8, .int .u8]) (by kernel_rfl) (xs := o.ins.cells) (ys := (namedF o bits).cells) rfl rfl (by kernel_rfl) (by kernel_rfl) ⟨good_u8 _, good_u8 _, good_u8 _, good_bool _, good_u8 _, good_bool _, good_u8 _, good_u8 _, good_u8 _, good_u8 _, trivial⟩ ⟨good_u8 _, good_u8 _, good_u8 _, good_bool _, good_u8 _, good_bool _, good_u8 _, good_u8 _, good_u8 _, good_u8 _, trivial⟩ (r := (decide (o.ins = (namedF o bits)))) (by exact Ins.cells_iff _ _)) ?_; simp only [N]
 refine wq_run rfl (fun w H => rp_assign rfl (v := .bool (decide (o.ins = (namedF o bits)))) rfl) ?_; simp only [N]
 refine wq_nil ?_
 clear H; intro w1 H
 refine wp_ret ?_
 try simp only [Exit.inBlock, Exit.then]
 refine bodyPost_ret (results1 rfl (rv_tmp rfl)) rfl ?_
 exact ⟨rfl, H.ext⟩

theorem may2_spec (bo To : Nat) (o : One) (w : World) (ho : w.heap[bo]? = some (.cells o.cells.toArray To (0, 0))) :
    Calls Tryz.prog 64 #[.pointer (some ⟨bo, 0, none⟩)] w fun e w' => e = .returned (.bool (decide (o.ins.dst < 8))) ∧ Ext w w' := by
 have H := Own.start_blks w [(bo, .cells o.cells.toArray To (0, 0))] (by simp [ho])
 go_enter Tryz.func64, Tryz.ntmps64
 refine wsr ?_
 refine wasg (.bool false) ?_; simp only [N]
 refine wnr ?_
 refine wr (rp_fieldAddr rfl Tryz.underlying100 rfl 0 rfl sz58 rfl 0 rfl) ?_; simp only [N]
 refine wr (rp_fieldAddr rfl Tryz.underlying58 rfl 1 rfl sz5 rfl 1 rfl) ?_; simp only [N]
 refine wr (rp_load1ro H 0 rfl rfl rfl Tryz.underlying5 rfl (v := bv o.ins.dst) rfl) ?_; simp only [N]
 refine wr (rp_u8_lss rfl o.ins.dst (8 : UInt8) rfl rfl) ?_; simp only [N]
 refine wasg (.bool (decide (o.ins.dst < (8 : UInt8)))) ?_; simp only [N]
 refine wpList_nil ?_
 refine wp_ret ?_
 try simp only [Exit.inBlock, Exit.then]
 refine bodyPost_ret (results1 rfl (rv_tmp rfl)) rfl ?_
 exact ⟨rfl, H.ext⟩

theorem may3_spec (bb Tb : Nat) (bits : Int) (bo To : Nat) (o : One) (bl Tl : Nat) (locs : Int) (w : World) (hb : w.heap[bb]? = some (.cells #[iv bits] Tb (0, 0))) (ho : w.heap[bo]? = some (.cells o.cells.toArray To (0, 0))) (hl : w.heap[bl]? = some (.cells #[iv locs] Tl (0, 0))) :
    Calls Tryz.prog 65 #[.pointer (some ⟨bb, 0, none⟩), .pointer (some ⟨bo, 0, none⟩), .pointer (some ⟨bl, 0, none⟩)] w fun e w' => e = .returned (.bool (band bits 2 == 0 || decide ((o.ins.loc.toNat : Int) < locs))) ∧ Ext w w' := by
 have H := Own.start_blks w [(bb, .cells #[iv bits] Tb (0, 0)), (bo, .cells o.cells.toArray To (0, 0)), (bl, .cells #[iv locs] Tl (0, 0))] (by simp [hb, ho, hl])
 go_enter Tryz.func65, Tryz.ntmps65
 refine wsr ?_
 refine wasg (.bool false) ?_; simp only [N]
 refine wnr ?_
 refine wr (rp_load1ro H 0 rfl rfl rfl Tryz.underlying3 rfl (v := iv bits) rfl) ?_; simp only [N]
 refine wr (rp_int_and rfl bits (2 : Int) rfl rfl) ?_; simp only [N]
 refine wr (rp_int_eql rfl (band bits (2 : Int)) (0 : Int) rfl rfl) ?_; simp only [N]
 refine wmv (.bool ((band bits (2 : Int)) == (0 : Int))) ?_; simp only [N]
 cases hg1 : ((band bits (2 : Int)) == (0 : Int))
 · --false
  have hg1N : (band bits (2 : Int)) ≠ (0 : Int) := by simpa using hg1
  refine wr (rp_fieldAddr rfl Tryz.underlying100 rfl 0 rfl sz58 rfl 0 rfl) ?_; simp only [N]
  refine wr (rp_fieldAddr rfl Tryz.underlying58 rfl 2 rfl sz5 rfl 2 rfl) ?_; simp only [N]
  refine wr (rp_load1ro H 1 rfl rfl rfl Tryz.underlying5 rfl (v := bv o.ins.loc) rfl) ?_; simp only [N]
  refine wr (rp_u8_to_int rfl Tryz.underlying5 Tryz.underlying3 o.ins.loc rfl) ?_; simp only [N]
  refine wr (rp_load1ro H 2 rfl rfl rfl Tryz.underlying3 rfl (v := iv locs) rfl) ?_; simp only [N]
  refine wr (rp_int_lss rfl ((o.ins.loc).toNat : Int) locs rfl rfl) ?_; simp only [N]
  refine wr (rp_pickF rfl rfl (v := .bool (decide (((o.ins.loc).toNat : Int) < locs))) rfl) ?_; simp only [N]
  refine wasg (.bool (decide (((o.ins.loc).toNat : Int) < locs))) ?_; simp only [N]
  refine wpList_nil ?_
  refine wp_ret ?_
  try simp only [Exit.inBlock, Exit.then]
  refine bodyPost_ret (results1 rfl (rv_tmp rfl)) rfl ?_
  exact ⟨by simp_all, H.ext⟩
 · --true
  have hg1N : (band bits (2 : Int)) = (0 : Int) := by simpa using hg1
  refine wskt ?_; simp only [N]
  refine wskt ?_; simp only [N]
  refine wskt ?_; simp only [N]
  refine wskt ?_; simp only [N]
  refine wskt ?_; simp only [N]
  refine wskt ?_; simp only [N]
  refine wr (rp_pickT rfl rfl (u := .bool true) rfl) ?_; simp only [N]
  refine wasg (.bool true) ?_; simp only [N]
  refine wpList_nil ?_
  refine wp_ret ?_
  try simp only [Exit.inBlock, Exit.then]
  refine bodyPost_ret (results1 rfl (rv_tmp rfl)) rfl ?_
  exact ⟨by simp_all, H.ext⟩

theorem may4_spec (bo To : Nat) (o : One) (w : World) (ho : w.heap[bo]? = some (.cells o.cells.toArray To (0, 0))) :
    Calls Tryz.prog 66 #[.pointer (some ⟨bo, 0, none⟩)] w fun e w' => e = .returned (.bool (argF o.ins.a && argF o.ins.b)) ∧ Ext w w' := by
 have H := Own.start_blks w [(bo, .cells o.cells.toArray To (0, 0))] (by simp [ho])
 go_enter Tryz.func66, Tryz.ntmps66
 refine wsr ?_
 refine wasg (.bool false) ?_; simp only [N]
 refine wnr ?_
 refine wr (rp_fieldAddr rfl Tryz.underlying100 rfl 0 rfl sz58 rfl 0 rfl) ?_; simp only [N]
 refine wr (rp_fieldAddr rfl Tryz.underlying58 rfl 3 rfl sz56 rfl 3 rfl) ?_; simp only [N]
 refine wr (rp_loadNro H 0 rfl rfl rfl Tryz.underlying56 rfl sz56 (Nat.le_of_ble_eq_true rfl) (cs' := o.ins.a.cells) rfl) ?_; simp only [N]
 refine wl_callE H rfl (rc_go Tryz.func67 (by kernel_rfl) rfl) (arg_spec o.ins.a _) ?_
 clear H; intro w1 H
 simp only [N]
 refine wmv (.bool (argF o.ins.a)) ?_; simp only [N]
 cases hg1 : (argF o.ins.a)
 · --false
  refine wskf ?_; simp only [N]
  refine wskf ?_; simp only [N]
  refine wskf ?_; simp only [N]
  refine wskf ?_; simp only [N]
  refine wr (rp_pickF rfl rfl (v := .bool false) rfl) ?_; simp only [N]
  refine wasg (.bool false) ?_; simp only [N]
  refine wpList_nil ?_
  refine wp_ret ?_
  try simp only [Exit.inBlock, Exit.then]
  refine bodyPost_ret (results1 rfl (rv_tmp rfl)) rfl ?_
  exact ⟨by simp_all, H.ext⟩
 · --true
  refine wr (rp_fieldAddr rfl Tryz.underlying100 rfl 0 rfl sz58 rfl 0 rfl) ?_; simp only [N]
  refine wr (rp_fieldAddr rfl Tryz.underlying58 rfl 5 rfl sz56 rfl 5 rfl) ?_; simp only [N]
  refine wr (rp_loadNro H 0 rfl rfl rfl Tryz.underlying56 rfl sz56 (Nat.le_of_ble_eq_true rfl) (cs' := o.ins.b.cells) rfl) ?_; simp only [N]
  refine wl_callE H rfl (rc_go Tryz.func67 (by kernel_rfl) rfl) (arg_spec o.ins.b _) ?_
  clear H; intro w2 H
  simp only [N]
  refine wr (rp_pickT rfl rfl (u := .bool (argF o.ins.b)) rfl) ?_; simp only [N]
  refine wasg (.bool (argF o.ins.b)) ?_; simp only [N]
  refine wpList_nil ?_
  refine wp_ret ?_
  try simp only [Exit.inBlock, Exit.then]
  refine bodyPost_ret (results1 rfl (rv_tmp rfl)) rfl ?_
  exact ⟨by simp_all, H.ext⟩

theorem may5_spec (bo To : Nat) (o : One) (w : World) (ho : w.heap[bo]? = some (.cells o.cells.toArray To (0, 0))) :
    Calls Tryz.prog 68 #[.pointer (some ⟨bo, 0, none⟩)] w fun e w' => e = .returned (.bool (((modesF o.ins.op).any fun y => o.ins.mode == y) && ((fnsF o.ins.op).any fun y => o.ins.fn == y))) ∧ Ext w w' := by
 have H := Own.start_blks w [(bo, .cells o.cells.toArray To (0, 0))] (by simp [ho])
 go_enter Tryz.func68, Tryz.ntmps68
 refine wsr ?_
 refine wasg (.bool false) ?_; simp only [N]
 refine wpList_nil ?_
 refine wp_seq ?_; refine wp_region_mix 15 H (by kernel_rfl) ?_
 refine wxl_tk 0 rfl (xy_run rfl (fun w H => rp_loadNro H 0 rfl rfl rfl Tryz.underlying100 rfl sz100 (Nat.le_of_ble_eq_true rfl) (cs' := o.cells) rfl)) ?_
 simp only [N, M, Value.cells]
 refine wxl_tk 2 rfl (xy_run rfl (fun w H => rp_fieldAddr rfl Tryz.underlying100 rfl 0 rfl sz58 rfl 0 rfl)) ?_
 simp only [N, M, Value.cells]
 refine wxl_tk 3 rfl (xy_run rfl (fun w H => rp_fieldAddr rfl Tryz.underlying58 rfl 8 rfl sz5 rfl 8 rfl)) ?_
 simp only [N, M, Value.cells]
 refine wxl_tk 4 rfl (xy_run rfl (fun w H => rp_load1ro H 0 rfl rfl rfl Tryz.underlying5 rfl (v := bv o.ins.mode) rfl)) ?_
 simp only [N, M, Value.cells]
 refine wxl_fresh 1 rfl rfl (by kernel_rfl) rfl (rc_go Tryz.func70 (by kernel_rfl) rfl) (fun w H => modes_spec o _) ?_
 intro b1
 simp only [N, M, Value.cells]
 refine wxl_tk 5 rfl (xy_call rfl (rc_go Tryz.func69 (by kernel_rfl) rfl) (fun w H => contains_u8 (⟨some ⟨b1, 0, none⟩, (modesF o.ins.op).length, modesF o.ins.op⟩ : Sl UInt8) o.ins.mode _ (H.ro_at 0 rfl))) ?_
 simp only [N, M, Value.cells]
 refine wxl_tk 6 rfl (xy_run rfl (fun w H => rp_move rfl (v := .bool ((⟨some ⟨b1, 0, none⟩, (modesF o.ins.op).length, modesF o.ins.op⟩ : Sl UInt8).l.any fun y => o.ins.mode == y)) rfl)) ?_
 simp only [N, M, Value.cells]
 cases hg1 : ((⟨some ⟨b1, 0, none⟩, (modesF o.ins.op).length, modesF o.ins.op⟩ : Sl UInt8).l.any fun y => o.ins.mode == y)
 · --false
  refine wxl_tk 7 rfl (xy_skip (unwanted rfl (b := false) rfl (by decide))) ?_
  simp only [N, M, Value.cells]
  refine wxl_tk 8 rfl (xy_skip (unwanted rfl (b := false) rfl (by decide))) ?_
  simp only [N, M, Value.cells]
  refine wxl_tk 9 rfl (xy_skip (unwanted rfl (b := false) rfl (by decide))) ?_
  simp only [N, M, Value.cells]
  refine wxl_tk 10 rfl (xy_skip (unwanted rfl (b := false) rfl (by decide))) ?_
  simp only [N, M, Value.cells]
  refine wxl_tk 11 rfl (xy_skip (unwanted rfl (b := false) rfl (by decide))) ?_
  simp only [N, M, Value.cells]
  refine wxl_tk 12 rfl (xy_skip (unwanted rfl (b := false) rfl (by decide))) ?_
  simp only [N, M, Value.cells]
  refine wxl_tk 13 rfl (xy_run rfl (fun w H => rp_pickF rfl rfl (v := .bool false) rfl)) ?_
  simp only [N, M, Value.cells]
  refine wxl_tk 14 rfl (xy_run rfl (fun w H => rp_assign rfl (v := .bool false) rfl)) ?_
  simp only [N, M, Value.cells]
  refine wpX_done (by kernel_rfl) ?_ _
  clear H; intro w1 H; simp only [List.cons_append, List.nil_append] at H
  refine wp_ret ?_
  try simp only [Exit.inBlock, Exit.then]
  refine bodyPost_ret (results1 rfl (rv_tmp rfl)) rfl ?_
  exact ⟨by simp_all, H.ext⟩
 · --true
  refine wxl_tk 7 rfl (xy_run rfl (fun w H => rp_loadNro H 1 rfl rfl rfl Tryz.underlying100 rfl sz100 (Nat.le_of_ble_eq_true rfl) (cs' := o.cells) rfl)) ?_
  simp only [N, M, Value.cells]
  refine wxl_tk 9 rfl (xy_run rfl (fun w H => rp_fieldAddr rfl Tryz.underlying100 rfl 0 rfl sz58 rfl 0 rfl)) ?_
  simp only [N, M, Value.cells]
  refine wxl_tk 10 rfl (xy_run rfl (fun w H => rp_fieldAddr rfl Tryz.underlying58 rfl 7 rfl sz5 rfl 7 rfl)) ?_
  simp only [N, M, Value.cells]
  refine wxl_tk 11 rfl (xy_run rfl (fun w H => rp_load1ro H 1 rfl rfl rfl Tryz.underlying5 rfl (v := bv o.ins.fn) rfl)) ?_
  simp only [N, M, Value.cells]
  refine wxl_fresh 8 rfl rfl (by kernel_rfl) rfl (rc_go Tryz.func71 (by kernel_rfl) rfl) (fun w H => fns_spec o _) ?_
  intro b2
  simp only [N, M, Value.cells]
  refine wxl_tk 12 rfl (xy_call rfl (rc_go Tryz.func69 (by kernel_rfl) rfl) (fun w H => contains_u8 (⟨some ⟨b2, 0, none⟩, (fnsF o.ins.op).length, fnsF o.ins.op⟩ : Sl UInt8) o.ins.fn _ (H.ro_at 0 rfl))) ?_
  simp only [N, M, Value.cells]
  refine wxl_tk 13 rfl (xy_run rfl (fun w H => rp_pickT rfl rfl (u := .bool ((⟨some ⟨b2, 0, none⟩, (fnsF o.ins.op).length, fnsF o.ins.op⟩ : Sl UInt8).l.any fun y => o.ins.fn == y)) rfl)) ?_
  simp only [N, M, Value.cells]
  refine wxl_tk 14 rfl (xy_run rfl (fun w H => rp_assign rfl (v := .bool ((⟨some ⟨b2, 0, none⟩, (fnsF o.ins.op).length, fnsF o.ins.op⟩ : Sl UInt8).l.any fun y => o.ins.fn == y)) rfl)) ?_
  simp only [N, M, Value.cells]
  refine wpX_done (by kernel_rfl) ?_ _
  clear H; intro w2 H; simp only [List.cons_append, List.nil_append] at H
  refine wp_ret ?_
  try simp only [Exit.inBlock, Exit.then]
  refine bodyPost_ret (results1 rfl (rv_tmp rfl)) rfl ?_
  exact ⟨by simp_all, H.ext⟩

theorem may6_spec (bb Tb : Nat) (bits : Int) (bo To : Nat) (o : One) (w : World) (hb : w.heap[bb]? = some (.cells #[iv bits] Tb (0, 0))) (ho : w.heap[bo]? = some (.cells o.cells.toArray To (0, 0))) :
    Calls Tryz.prog 72 #[.pointer (some ⟨bb, 0, none⟩), .pointer (some ⟨bo, 0, none⟩)] w fun e w' => e = .returned (.bool (band bits 64 == 0 || (decide (0 < o.ins.skip) && decide ((o.ins.skip.toNat : Int) ≤ o.behind)))) ∧ Ext w w' := by
 have H := Own.start_blks w [(bb, .cells #[iv bits] Tb (0, 0)), (bo, .cells o.cells.toArray To (0, 0))] (by simp [hb, ho])
 go_enter Tryz.func72, Tryz.ntmps72
 refine wsr ?_
 refine wasg (.bool false) ?_; simp only [N]
 refine wnr ?_
 refine wr (rp_load1ro H 0 rfl rfl rfl Tryz.underlying3 rfl (v := iv bits) rfl) ?_; simp only [N]
 refine wr (rp_int_and rfl bits (64 : Int) rfl rfl) ?_; simp only [N]
 refine wr (rp_int_eql rfl (band bits (64 : Int)) (0 : Int) rfl rfl) ?_; simp only [N]
 refine wmv (.bool ((band bits (64 : Int)) == (0 : Int))) ?_; simp only [N]
 cases hg1 : ((band bits (64 : Int)) == (0 : Int))
 · --false
  have hg1N : (band bits (64 : Int)) ≠ (0 : Int) := by simpa using hg1
  refine wr (rp_fieldAddr rfl Tryz.underlying100 rfl 0 rfl sz58 rfl 0 rfl) ?_; simp only [N]
  refine wr (rp_fieldAddr rfl Tryz.underlying58 rfl 9 rfl sz5 rfl 9 rfl) ?_; simp only [N]
  refine wr (rp_load1ro H 1 rfl rfl rfl Tryz.underlying5 rfl (v := bv o.ins.skip) rfl) ?_; simp only [N]
  refine wr (rp_u8_gtr rfl o.ins.skip (0 : UInt8) rfl rfl) ?_; simp only [N]
  refine wmv (.bool (decide ((0 : UInt8) < o.ins.skip))) ?_; simp only [N]
  cases hg2 : (decide ((0 : UInt8) < o.ins.skip))
  · --false
   have hg2N : (o.ins.skip).toNat ≤ 0 := u8_ge hg2
   refine wskf ?_; simp only [N]
   refine wskf ?_; simp only [N]
   refine wskf ?_; simp only [N]
   refine wskf ?_; simp only [N]
   refine wskf ?_; simp only [N]
   refine wskf ?_; simp only [N]
   refine wskf ?_; simp only [N]
   refine wr (rp_pickF rfl rfl (v := .bool false) rfl) ?_; simp only [N]
   refine wr (rp_pickF rfl rfl (v := .bool false) rfl) ?_; simp only [N]
   refine wasg (.bool false) ?_; simp only [N]
   refine wpList_nil ?_
   refine wp_ret ?_
   try simp only [Exit.inBlock, Exit.then]
   refine bodyPost_ret (results1 rfl (rv_tmp rfl)) rfl ?_
   exact ⟨by simp_all, H.ext⟩
  · --true
   have hg2N : 0 < (o.ins.skip).toNat := u8_lt hg2
   refine wr (rp_fieldAddr rfl Tryz.underlying100 rfl 0 rfl sz58 rfl 0 rfl) ?_; simp only [N]
   refine wr (rp_fieldAddr rfl Tryz.underlying58 rfl 9 rfl sz5 rfl 9 rfl) ?_; simp only [N]
   refine wr (rp_load1ro H 1 rfl rfl rfl Tryz.underlying5 rfl (v := bv o.ins.skip) rfl) ?_; simp only [N]
   refine wr (rp_u8_to_int rfl Tryz.underlying5 Tryz.underlying3 o.ins.skip rfl) ?_; simp only [N]
   refine wr (rp_fieldAddr rfl Tryz.underlying100 rfl 10 rfl sz3 rfl 10 rfl) ?_; simp only [N]
   refine wr (rp_load1ro H 1 rfl rfl rfl Tryz.underlying3 rfl (v := iv o.behind) rfl) ?_; simp only [N]
   refine wr (rp_int_leq rfl ((o.ins.skip).toNat : Int) o.behind rfl rfl) ?_; simp only [N]
   refine wr (rp_pickT rfl rfl (u := .bool (decide (((o.ins.skip).toNat : Int) ≤ o.behind))) rfl) ?_; simp only [N]
   refine wr (rp_pickF rfl rfl (v := .bool (decide (((o.ins.skip).toNat : Int) ≤ o.behind))) rfl) ?_; simp only [N]
   refine wasg (.bool (decide (((o.ins.skip).toNat : Int) ≤ o.behind))) ?_; simp only [N]
   refine wpList_nil ?_
   refine wp_ret ?_
   try simp only [Exit.inBlock, Exit.then]
   refine bodyPost_ret (results1 rfl (rv_tmp rfl)) rfl ?_
   exact ⟨by simp_all, H.ext⟩
 · --true
  have hg1N : (band bits (64 : Int)) = (0 : Int) := by simpa using hg1
  refine wskt ?_; simp only [N]
  refine wskt ?_; simp only [N]
  refine wskt ?_; simp only [N]
  refine wskt ?_; simp only [N]
  refine wskt ?_; simp only [N]
  refine wl_skip (unwanted0 rfl rfl) ?_; simp only [N]
  refine wl_skip (unwanted0 rfl rfl) ?_; simp only [N]
  refine wl_skip (unwanted0 rfl rfl) ?_; simp only [N]
  refine wl_skip (unwanted0 rfl rfl) ?_; simp only [N]
  refine wl_skip (unwanted0 rfl rfl) ?_; simp only [N]
  refine wl_skip (unwanted0 rfl rfl) ?_; simp only [N]
  refine wl_skip (unwanted0 rfl rfl) ?_; simp only [N]
  refine wskt ?_; simp only [N]
  refine wr (rp_pickT rfl rfl (u := .bool true) rfl) ?_; simp only [N]
  refine wasg (.bool true) ?_; simp only [N]
  refine wpList_nil ?_
  refine wp_ret ?_
  try simp only [Exit.inBlock, Exit.then]
  refine bodyPost_ret (results1 rfl (rv_tmp rfl)) rfl ?_
  exact ⟨by simp_all, H.ext⟩

end Go.Proofs.YtimonjemjhecoaaGreatDoor
