/- Walks, printed by a program of this repository (wip/tool). -/
import Derived.Test.YtimonjemjhecoaaGreatDoorRows
import Derived.Test.YtimonjemjhecoaaGreatDoorSxMore
import Derived.Test.YtimonjemjhecoaaGreatDoorSxRange
import Derived.Test.YtimonjemjhecoaaGreatDoorSxArr
import Derived.Test.YtimonjemjhecoaaGreatDoorDec
import Derived.ProofKit
import Derived.LaidMore
import Derived.OpenShut
import Derived.Carry
import Derived.Deep.DeepWitnessRowRef
import Derived.Deep.DeepHandedRow
import Derived.Deep.Slices
import Derived.Lib.LaidTab
import Derived.Stop.LaidErr
namespace Go.Proofs.YtimonjemjhecoaaGreatDoor
open Go.RowKit
open Go
attribute [local irreducible] wpList wpQuiet wpX Code.wp
set_option maxHeartbeats 1000000
set_option maxRecDepth 100000
set_option linter.unusedSimpArgs false
set_option linter.unusedVariables false


open Go.ChangeShapes Go.WideShapes Go.ChangeAt Go.WideMaps Go.WideElems Go.RowKit
theorem u8_of {n : Int} (h : (Lit.int .u8 n).wf = true) : ∃ a : UInt8, n = (a.toNat : Int) := by
  simp only [Lit.wf, Bool.and_eq_true, decide_eq_true_eq] at h
  refine ⟨UInt8.ofNat n.toNat, ?_⟩
  have h1 : 0 ≤ n ∧ n ≤ 255 := h
  rw [UInt8.toNat_ofNat']
  omega
section
variable {H : Type} {enc : TypeId × Value → H} {P : Program} {W : World} {sp : Nat → Bool} {hd : Bool} {n : Nat} {t e : TypeId} {cs : List Value} {x : DataW H × List MemPlace}
theorem open_u8 (ht : P.underlying t = some (.int .u8)) (h : DataW.trod enc P W 0 sp hd n t cs = some x) : ∃ a : UInt8, cs = [bv a] := by
  obtain ⟨k, rfl, _, hw⟩ := DataW.trod_int ht h
  obtain ⟨a, rfl⟩ := u8_of hw
  exact ⟨a, rfl⟩
theorem open_str (ht : P.underlying t = some .string) (h : DataW.trod enc P W 0 sp hd n t cs = some x) : ∃ s : ByteArray, cs = [.string s] ∧ s.size < Rows.uptoBulk x.1 := by
  obtain ⟨s, rfl, rfl, _⟩ := DataW.trod_string ht h
  refine ⟨s, rfl, ?_⟩
  have e : s.data.toList.length = s.size := by rw [Array.length_toList]; rfl
  simp only [Rows.uptoBulk]
  omega
theorem bulk_pos (d : DataW H) : 1 ≤ Rows.uptoBulk d := by
  cases d with
  | lit l => cases l <;> (unfold Rows.uptoBulk; omega)
  | _ => unfold Rows.uptoBulk; omega
theorem trod_field {fs : Array Field} {xs : List (DataW H × List MemPlace)} (hf : ∀ (i : Nat) (f : Field), fs[i]? = some f → DataW.trod enc P W 0 sp hd n f.type ((cs.drop f.offset).take (P.cellsOf f.type)) = xs[i]?)
    (i ft off k : Nat) (h : (fs[i]?).map (fun f => (f.type, f.offset)) = some (ft, off)) (hc : P.cellsOf ft = k) : DataW.trod enc P W 0 sp hd n ft ((cs.drop off).take k) = xs[i]? := by
  obtain ⟨f, h1, h2⟩ := Option.map_eq_some_iff.1 h
  have h3 := hf i f h1
  cases h2
  rw [hc] at h3
  exact h3
theorem bulk_mem {d : DataW H} {l : List (DataW H)} (h : d ∈ l) : Rows.uptoBulk d ≤ Rows.uptoBulkAll l := by
  induction l with
  | nil => cases h
  | cons x r ih =>
    simp only [Rows.uptoBulkAll]
    rcases List.mem_cons.1 h with rfl | h
    · omega
    · have := ih h; omega
theorem bulk_len (l : List (DataW H)) : l.length ≤ Rows.uptoBulkAll l := by
  induction l with
  | nil => simp [Rows.uptoBulkAll]
  | cons x r ih => have := bulk_pos x; simp only [Rows.uptoBulkAll, List.length_cons]; omega
theorem list_make {α : Type} [Inhabited α] (Q : Nat → α → Prop) : ∀ k : Nat, (∀ i, i < k → ∃ a, Q i a) → ∃ l : List α, l.length = k ∧ ∀ i, i < k → Q i (l.getD i default)
  | 0, _ => ⟨[], rfl, fun i hi => by omega⟩
  | k + 1, h => by
    obtain ⟨l, hl, hq⟩ := list_make Q k fun i hi => h i (by omega)
    obtain ⟨a, ha⟩ := h k (by omega)
    refine ⟨l ++ [a], by simp [hl], fun i hi => ?_⟩
    rcases Nat.lt_or_ge i k with h1 | h1
    · have := hq i h1
      simpa [List.getD_eq_getElem?_getD, List.getElem?_append_left (show i < l.length by omega)] using this
    · obtain rfl : i = k := by omega
      simpa [List.getD_eq_getElem?_getD, List.getElem?_append_right (show l.length ≤ i by omega), hl] using ha
theorem cells_get {a : Addr} {m : Nat} (h : W.cells? 0 a m = some cs) : ∀ j v, cs[j]? = some v → W.cell? (a.add j) = some v := by
  unfold World.cells? at h
  simp only [Nat.zero_le, if_true] at h
  intro j v hv
  have hl : cs.length = m := by simpa using mapM_some_length h
  have hj : j < m := by
    have := (List.getElem?_eq_some_iff.1 hv).1
    omega
  have := mapM_some_get h j j (by simp [hj])
  rw [this]; exact hv
theorem spot_none {a : Addr} {v : Value} (h : W.cell? a = some v) : a = ⟨a.block, a.off, none⟩ := by
  unfold World.cell? at h
  split at h
  · split at h
    · cases h
    · rename_i hs
      cases a with
      | mk b o s => cases s with
        | none => rfl
        | some k => simp at hs
  · cases h
theorem open_slice_of {α : Type} [Inhabited α] {k : Nat} {en : α → List Value} (good : α → DataW H → Prop) (ht : P.underlying t = some (.slice e)) (hc : P.cellsOf e = k) (hn : ∀ x, (en x).length = k ∧ 0 < k)
    (hel : ∀ m cs (x : DataW H × List MemPlace), m < n → Rows.uptoBulk x.1 ≤ 1048576 → DataW.trod enc P W 0 sp hd m e cs = some x → ∃ a, cs = en a ∧ good a x.1) (h : DataW.trod enc P W 0 sp hd n t cs = some x) (hb : Rows.uptoBulk x.1 ≤ 1048576) :
    ∃ s : Sl α, cs = [s.val] ∧ SlIn k en s W ∧ ∀ a ∈ s.l, ∃ d, good a d ∧ Rows.uptoBulk d < Rows.uptoBulk x.1 := by
  rcases DataW.trod_slice ht h with ⟨rfl, rfl⟩ | ⟨a, len, cap, elems, rest, m, rfl, rfl, rfl, _, hl, _, hlen, hel', _⟩
  · exact ⟨⟨none, 0, []⟩, rfl, slin_nil hn, by simp⟩
  · rw [hc] at hel'
    have hbd : ∀ (i : Nat) (y : DataW H × List MemPlace), elems[i]? = some y → Rows.uptoBulk y.1 < Rows.uptoBulk (DataW.slice (elems.map (·.1)) (rest.map (·.1))) := fun i y hy => by
      have h1 : y.1 ∈ elems.map (·.1) := List.mem_map_of_mem (List.mem_of_getElem? hy)
      have := bulk_mem h1
      simp only [Rows.uptoBulk]
      omega
    have hex : ∀ i, i < len → ∃ b : α, (∃ y : DataW H × List MemPlace, elems[i]? = some y ∧ good b y.1) ∧ W.cells? 0 (a.add (i * k)) k = some (en b) := fun i hi => by
      have h1 := hel' i hi
      obtain ⟨y, hy⟩ : ∃ y, elems[i]? = some y := ⟨_, List.getElem?_eq_getElem (by omega)⟩
      rw [hy] at h1
      obtain ⟨c, h2, h3⟩ := Option.bind_eq_some_iff.1 h1
      obtain ⟨b, rfl, hg⟩ := hel m c y (by omega) (by have := hbd i y hy; simp only at hb; omega) h3
      exact ⟨b, ⟨y, hy, hg⟩, h2⟩
    obtain ⟨l, hll, hq⟩ := list_make _ len hex
    have hblen : elems.length ≤ 1048576 := by
      have := bulk_len (elems.map (·.1))
      simp only [Rows.uptoBulk, List.length_map] at hb this
      omega
    refine ⟨⟨some a, cap, l⟩, by simp [Sl.val, hll], ⟨fun i hi => ?_, hn, by show l.length ≤ _; omega, by show l.length ≤ cap; omega⟩, fun b hb' => ?_⟩
    · have hi' : i < len := by simpa [hll] using hi
      have h0 := (hq 0 (by omega)).2
      have hpos := (hn (l.getD 0 default))
      have hs : a = ⟨a.block, a.off, none⟩ := by
        have h1 := cells_get h0 0 _ (List.getElem?_eq_getElem (by omega))
        simpa [Addr.add] using spot_none h1
      refine ⟨congrArg some hs, fun j v hv => ?_⟩
      have h2 := cells_get (hq i hi').2 j v hv
      rw [hs, Addr.add_mid, Addr.add_mid] at h2
      exact h2
    · obtain ⟨i, hi⟩ := List.getElem?_of_mem hb'
      have hi' : i < len := by have h7 : i < l.length := (List.getElem?_eq_some_iff.1 hi).1; omega
      obtain ⟨⟨y, hy, hg⟩, _⟩ := hq i hi'
      have e : l.getD i default = b := by simp [List.getD_eq_getElem?_getD, hi]
      rw [e] at hg
      exact ⟨y.1, hg, hbd i y hy⟩
theorem deeps_le {B : Nat} : ∀ (l : List Cond) (d : Nat), d ≤ B → (∀ c ∈ l, deepF c ≤ B) → deepsF l d ≤ B
  | [], d, hd, _ => by simpa [deepsF] using hd
  | c :: r, d, hd, h => by
    rw [deepsF]
    exact deeps_le r _ (Nat.max_le.2 ⟨hd, h c (by simp)⟩) fun c hc => h c (by simp [hc])
theorem args_stay (hl : laidOutB P = true) {W' : World} (hw : Ext W W') : ∀ {ts : List TypeId} {vs : List Value} {ds : List (DataW H)} {ps : List MemPlace}, (∀ t ∈ ts, P.readableRec t = true ∧ t < P.types.size) →
    DataW.TrodAll enc P W 0 (fun _ => true) true ts vs ds ps → (∀ x ∈ ps, x.block < W.heap.size) → DataW.TrodAll enc P W' 0 (fun b => decide (b < W.heap.size)) true ts vs ds ps
  | [], [], [], _, _, h, _ => h
  | t :: ts, v :: vs, d :: ds, _, hts, ⟨p, q, h1, h2, rfl⟩, hlt =>
    ⟨p, q, Below.trod hl (hts t (by simp)).1 (hts t (by simp)).2 h1 hw fun x hx => hlt x (by simp [hx]), args_stay hl hw (fun t ht => hts t (by simp [ht])) h2 fun x hx => hlt x (by simp [hx]), rfl⟩
  | _ :: _, [], _, _, _, h, _ => h.elim
  | [], _ :: _, _, _, _, h, _ => h.elim
  | [], [], _ :: _, _, _, h, _ => h.elim
  | _ :: _, _ :: _, [], _, _, h, _ => h.elim
theorem kept_ext {W W' : World} (h : Ext W W') (may : MemPlace → Prop) : W.keptBut W' may := by
  refine ⟨h.os, h.output, fun i hi => ?_⟩
  rw [h.block i hi]
  exact (World.keptBut_refl W may).2.2 i hi
theorem trodAll_len : ∀ {ts : List TypeId} {vs : List Value} {ds : List (DataW H)} {ps : List MemPlace}, DataW.TrodAll enc P W 0 sp hd ts vs ds ps → vs.length = ts.length ∧ ds.length = ts.length
  | [], [], [], _, _ => ⟨rfl, rfl⟩
  | t :: ts, v :: vs, d :: ds, _, ⟨_, _, _, h2, _⟩ => by have := trodAll_len h2; simp [this.1, this.2]
  | _ :: _, [], _, _, h => h.elim
  | [], _ :: _, _, _, h => h.elim
  | [], [], _ :: _, _, h => h.elim
  | _ :: _, _ :: _, [], _, h => h.elim
theorem law_post {f : Func} {s : ChangeSpec} (hl : laidOutB P = true) {W' : World} {args : Array Value} {ds gs : List (DataW H)} {before : List MemPlace} (hv : s.vars = []) (hbool : P.underlying 4 = some .bool) (hres : f.resultTypes = #[4])
    (hts : ∀ t ∈ f.params.toList, P.readableRec t = true ∧ t < P.types.size) (hfn : ∀ ds : List (DataW H), ds.length = f.params.toList.length → s.fn H ds = { results := [.lit (.bool true)], args := ds })
    (hW : DataW.Whole enc P f.params.toList s.vars false W args.toList ds gs before) (hw : Ext W W') : s.post enc P f false true false false W args (.bool true) W' := by
  have hlt := hW.lt
  have hW' := hW
  obtain ⟨p, q, hA, hV, rfl, _, _⟩ := hW
  rw [hv] at hV
  obtain ⟨rfl, rfl⟩ := trodVars_none hV
  have hd := hfn ds (trodAll_len hA).2
  refine ⟨ds, [], _, [], p, [], hW', ?_, ?_, ?_, kept_ext hw _, fun h => by cases h⟩
  · rw [List.append_nil, hd, hres]
    exact trodAll_mk1 (shut_bool hbool true)
  · rw [List.append_nil, hd]
    exact args_stay hl hw hts hA fun x hx => hlt x (by simp [hx])
  · rw [List.append_nil, hd, hv]
    rfl
end

theorem cut2 {α : Type} {l : List α} (h : l.length = 2) : ∃ a0 a1, l = [a0, a1] := by
  match l, h with
  | [a0, a1], _ => exact ⟨a0, a1, rfl⟩
theorem cut5 {α : Type} {l : List α} (h : l.length = 5) : ∃ a0 a1 a2 a3 a4, l = [a0, a1, a2, a3, a4] := by
  match l, h with
  | [a0, a1, a2, a3, a4], _ => exact ⟨a0, a1, a2, a3, a4, rfl⟩
theorem cut6 {α : Type} {l : List α} (h : l.length = 6) : ∃ a0 a1 a2 a3 a4 a5, l = [a0, a1, a2, a3, a4, a5] := by
  match l, h with
  | [a0, a1, a2, a3, a4, a5], _ => exact ⟨a0, a1, a2, a3, a4, a5, rfl⟩
theorem cut8 {α : Type} {l : List α} (h : l.length = 8) : ∃ a0 a1 a2 a3 a4 a5 a6 a7, l = [a0, a1, a2, a3, a4, a5, a6, a7] := by
  match l, h with
  | [a0, a1, a2, a3, a4, a5, a6, a7], _ => exact ⟨a0, a1, a2, a3, a4, a5, a6, a7, rfl⟩
theorem cut10 {α : Type} {l : List α} (h : l.length = 10) : ∃ a0 a1 a2 a3 a4 a5 a6 a7 a8 a9, l = [a0, a1, a2, a3, a4, a5, a6, a7, a8, a9] := by
  match l, h with
  | [a0, a1, a2, a3, a4, a5, a6, a7, a8, a9], _ => exact ⟨a0, a1, a2, a3, a4, a5, a6, a7, a8, a9, rfl⟩
theorem cn4 : Tryz.prog.cellsOf 4 = 1 := by kernel_rfl
theorem cn5 : Tryz.prog.cellsOf 5 = 1 := by kernel_rfl
theorem cn9 : Tryz.prog.cellsOf 9 = 1 := by kernel_rfl
theorem cn22 : Tryz.prog.cellsOf 22 = 1 := by kernel_rfl
theorem cn23 : Tryz.prog.cellsOf 23 = 1 := by kernel_rfl
theorem cn24 : Tryz.prog.cellsOf 24 = 1 := by kernel_rfl
theorem cn25 : Tryz.prog.cellsOf 25 = 1 := by kernel_rfl
theorem cn27 : Tryz.prog.cellsOf 27 = 5 := by kernel_rfl
theorem cn29 : Tryz.prog.cellsOf 29 = 10 := by kernel_rfl
theorem cn56 : Tryz.prog.cellsOf 56 = 2 := by kernel_rfl
theorem cn58 : Tryz.prog.cellsOf 58 = 10 := by kernel_rfl
theorem cn59 : Tryz.prog.cellsOf 59 = 1 := by kernel_rfl
section
variable {H : Type} {enc : TypeId × Value → H} {W : World} {sp : Nat → Bool} {hd : Bool}
theorem open_arg {n : Nat} {cs : List Value} {x : DataW H × List MemPlace} (h : DataW.trod enc Tryz.prog W 0 sp hd n 56 cs = some x) : ∃ a : Arg, cs = a.cells := by
  obtain ⟨xs, m, rfl, rfl, hlen, hxl, hf⟩ := DataW.trod_struct Tryz.underlying56 h
  rw [cn56] at hlen
  obtain ⟨c0, c1, rfl⟩ := cut2 hlen
  obtain ⟨x0, x1, rfl⟩ := cut2 (show xs.length = 2 from hxl)
  have h0 : DataW.trod enc Tryz.prog W 0 sp hd m 4 [c0] = some x0 := trod_field hf 0 4 0 1 rfl cn4
  have h1 : DataW.trod enc Tryz.prog W 0 sp hd m 5 [c1] = some x1 := trod_field hf 1 5 1 1 rfl cn5
  obtain ⟨r, hr, _⟩ := DataW.trod_bool Tryz.underlying4 h0
  obtain ⟨k, hk⟩ := open_u8 Tryz.underlying5 h1
  cases hr; cases hk
  exact ⟨⟨r, k⟩, rfl⟩
theorem open_ins {n : Nat} {cs : List Value} {x : DataW H × List MemPlace} (h : DataW.trod enc Tryz.prog W 0 sp hd n 58 cs = some x) : ∃ i : Ins, cs = i.cells := by
  obtain ⟨xs, m, rfl, rfl, hlen, hxl, hf⟩ := DataW.trod_struct Tryz.underlying58 h
  rw [cn58] at hlen
  obtain ⟨c0, c1, c2, c3, c4, c5, c6, c7, c8, c9, rfl⟩ := cut10 hlen
  obtain ⟨x0, x1, x2, x3, x4, x5, x6, x7, rfl⟩ := cut8 (show xs.length = 8 from hxl)
  have h0 : DataW.trod enc Tryz.prog W 0 sp hd m 5 [c0] = some x0 := trod_field hf 0 5 0 1 rfl cn5
  have h1 : DataW.trod enc Tryz.prog W 0 sp hd m 5 [c1] = some x1 := trod_field hf 1 5 1 1 rfl cn5
  have h2 : DataW.trod enc Tryz.prog W 0 sp hd m 5 [c2] = some x2 := trod_field hf 2 5 2 1 rfl cn5
  have h3 : DataW.trod enc Tryz.prog W 0 sp hd m 56 [c3, c4] = some x3 := trod_field hf 3 56 3 2 rfl cn56
  have h4 : DataW.trod enc Tryz.prog W 0 sp hd m 56 [c5, c6] = some x4 := trod_field hf 4 56 5 2 rfl cn56
  have h5 : DataW.trod enc Tryz.prog W 0 sp hd m 5 [c7] = some x5 := trod_field hf 5 5 7 1 rfl cn5
  have h6 : DataW.trod enc Tryz.prog W 0 sp hd m 5 [c8] = some x6 := trod_field hf 6 5 8 1 rfl cn5
  have h7 : DataW.trod enc Tryz.prog W 0 sp hd m 5 [c9] = some x7 := trod_field hf 7 5 9 1 rfl cn5
  obtain ⟨op, eop⟩ := open_u8 Tryz.underlying5 h0
  obtain ⟨ds, eds⟩ := open_u8 Tryz.underlying5 h1
  obtain ⟨lo, elo⟩ := open_u8 Tryz.underlying5 h2
  obtain ⟨a, ea⟩ := open_arg h3
  obtain ⟨b, eb⟩ := open_arg h4
  obtain ⟨fn, efn⟩ := open_u8 Tryz.underlying5 h5
  obtain ⟨mo, emo⟩ := open_u8 Tryz.underlying5 h6
  obtain ⟨sk, esk⟩ := open_u8 Tryz.underlying5 h7
  cases eop; cases eds; cases elo; cases ea; cases eb; cases efn; cases emo; cases esk
  exact ⟨⟨op, ds, lo, a, b, fn, mo, sk⟩, rfl⟩
theorem open_cond : ∀ (n : Nat) (cs : List Value) (x : DataW H × List MemPlace), DataW.trod enc Tryz.prog W 0 sp hd n 27 cs = some x → Rows.uptoBulk x.1 ≤ 1048576 → ∃ c : Cond, cs = c.cells ∧ CondIn W c ∧ deepF c ≤ Rows.uptoBulk x.1 := by
  intro n
  induction n using Nat.strongRecOn with
  | _ n open_cond =>
  intro cs x h hb
  obtain ⟨xs, m, rfl, rfl, hlen, hxl, hf⟩ := DataW.trod_struct Tryz.underlying27 h
  rw [cn27] at hlen
  obtain ⟨c0, c1, c2, c3, c4, rfl⟩ := cut5 hlen
  obtain ⟨x0, x1, x2, x3, x4, rfl⟩ := cut5 (show xs.length = 5 from hxl)
  have h0 : DataW.trod enc Tryz.prog W 0 sp hd m 5 [c0] = some x0 := trod_field hf 0 5 0 1 rfl cn5
  have h1 : DataW.trod enc Tryz.prog W 0 sp hd m 5 [c1] = some x1 := trod_field hf 1 5 1 1 rfl cn5
  have h2 : DataW.trod enc Tryz.prog W 0 sp hd m 5 [c2] = some x2 := trod_field hf 2 5 2 1 rfl cn5
  have h3 : DataW.trod enc Tryz.prog W 0 sp hd m 5 [c3] = some x3 := trod_field hf 3 5 3 1 rfl cn5
  have h4 : DataW.trod enc Tryz.prog W 0 sp hd m 25 [c4] = some x4 := trod_field hf 4 25 4 1 rfl cn25
  obtain ⟨k, ek⟩ := open_u8 Tryz.underlying5 h0
  obtain ⟨th, eth⟩ := open_u8 Tryz.underlying5 h1
  obtain ⟨nn, enn⟩ := open_u8 Tryz.underlying5 h2
  obtain ⟨vv, evv⟩ := open_u8 Tryz.underlying5 h3
  have hbx : Rows.uptoBulk x4.1 < Rows.uptoBulk (DataW.agg (List.map (fun x => x.1) [x0, x1, x2, x3, x4])) := by simp only [List.map_cons, List.map_nil, Rows.uptoBulk, Rows.uptoBulkAll]; omega
  obtain ⟨s, es, hs, hg⟩ := open_slice_of (fun c d => CondIn W c ∧ deepF c ≤ Rows.uptoBulk d) Tryz.underlying25 cn27 condN (fun m' cs x hm hb h => open_cond m' (by omega) cs x h hb) h4 (by simp only at hb; omega)
  cases ek; cases eth; cases enn; cases evv; cases es
  refine ⟨.mk k th nn vv s.ad s.cap s.l, rfl, .mk _ hs fun c hc => ?_, ?_⟩
  · obtain ⟨d, hd1, _⟩ := hg c hc
    exact hd1.1
  · have := deeps_le (B := Rows.uptoBulk x4.1) s.l 0 (Nat.zero_le _) fun c hc => by obtain ⟨d, hd1, hd2⟩ := hg c hc; omega
    rw [deepF]
    change _ ≤ Rows.uptoBulk (DataW.agg (List.map (fun x => x.1) [x0, x1, x2, x3, x4]))
    omega
theorem open_prog {n : Nat} {cs : List Value} {x : DataW H × List MemPlace} (h : DataW.trod enc Tryz.prog W 0 sp hd n 29 cs = some x) (hb : Rows.uptoBulk x.1 ≤ 1048576) : ∃ p : Prog, cs = p.cells ∧ IsProg p W := by
  obtain ⟨xs, m, rfl, rfl, hlen, hxl, hf⟩ := DataW.trod_struct Tryz.underlying29 h
  rw [cn29] at hlen
  obtain ⟨c0, c1, c2, c3, c4, c5, c6, c7, c8, c9, rfl⟩ := cut10 hlen
  obtain ⟨x0, x1, x2, x3, x4, x5, rfl⟩ := cut6 (show xs.length = 6 from hxl)
  have h0 : DataW.trod enc Tryz.prog W 0 sp hd m 9 [c0] = some x0 := trod_field hf 0 9 0 1 rfl cn9
  have h1 : DataW.trod enc Tryz.prog W 0 sp hd m 22 [c1] = some x1 := trod_field hf 1 22 1 1 rfl cn22
  have h2 : DataW.trod enc Tryz.prog W 0 sp hd m 23 [c2] = some x2 := trod_field hf 2 23 2 1 rfl cn23
  have h3 : DataW.trod enc Tryz.prog W 0 sp hd m 24 [c3] = some x3 := trod_field hf 3 24 3 1 rfl cn24
  have h4 : DataW.trod enc Tryz.prog W 0 sp hd m 5 [c4] = some x4 := trod_field hf 4 5 4 1 rfl cn5
  have h5 : DataW.trod enc Tryz.prog W 0 sp hd m 27 [c5, c6, c7, c8, c9] = some x5 := trod_field hf 5 27 5 5 rfl cn27
  have hbx : Rows.uptoBulk x0.1 + Rows.uptoBulk x1.1 + Rows.uptoBulk x2.1 + Rows.uptoBulk x3.1 + Rows.uptoBulk x5.1 ≤ 1048576 := by simp only [List.map_cons, List.map_nil, Rows.uptoBulk, Rows.uptoBulkAll] at hb; omega
  obtain ⟨nm, enm, hnm⟩ := open_str Tryz.underlying9 h0
  obtain ⟨lo, elo, hlo, glo⟩ := open_slice_of (α := ByteArray) (en := eStr) (fun s d => s.size ≤ 1048576) Tryz.underlying22 cn9 (by intro s; simp [eStr]) (fun m' cs x _ hb h => by obtain ⟨s, hs, hz⟩ := open_str Tryz.underlying9 h; exact ⟨s, hs, by omega⟩) h1 (by omega)
  obtain ⟨ini, eini, hini, _⟩ := open_slice_of (α := UInt8) (en := eByte) (fun _ _ => True) Tryz.underlying23 cn5 (by intro s; simp [eByte]) (fun m' cs x _ _ h => by obtain ⟨s, hs⟩ := open_u8 Tryz.underlying5 h; exact ⟨s, hs, trivial⟩) h2 (by omega)
  obtain ⟨th, eth, hth, gth⟩ := open_slice_of (α := Sl Ins) (en := eSl) (fun t d => SlIn 10 Ins.cells t W) Tryz.underlying24 cn59 (by intro s; simp [eSl]) (fun m' cs x _ hb h => by obtain ⟨s, hs, hz, _⟩ := open_slice_of (α := Ins) (en := Ins.cells) (fun _ _ => True) Tryz.underlying59 cn58 (by intro i; simp [Ins.cells]) (fun m' cs x _ _ h => by obtain ⟨i, hi⟩ := open_ins h; exact ⟨i, hi, trivial⟩) h hb; exact ⟨s, hs, hz⟩) h3 (by omega)
  obtain ⟨ask, eask⟩ := open_u8 Tryz.underlying5 h4
  obtain ⟨co, eco, hco, gco⟩ := open_cond _ _ _ h5 (by omega)
  cases co with | mk k t nn vv ad cap kids =>
  cases enm; cases elo; cases eini; cases eth; cases eask; cases eco
  exact ⟨⟨nm, lo, ini, th, ask, .mk k t nn vv ad cap kids⟩, rfl, hlo, hini, hth, fun t ht => by obtain ⟨_, h, _⟩ := gth t ht; exact h, hco, by show nm.size ≤ _; omega, fun s hs => by obtain ⟨_, h, _⟩ := glo s hs; exact Nat.le_trans h (by decide), Nat.le_trans gco (by omega)⟩
theorem open_bytes {n : Nat} {cs : List Value} {x : DataW H × List MemPlace} (h : DataW.trod enc Tryz.prog W 0 sp hd n 23 cs = some x) (hb : Rows.uptoBulk x.1 ≤ 1048576) : ∃ s : Sl UInt8, cs = [s.val] ∧ SlIn 1 eByte s W := by
  obtain ⟨s, h1, h2, _⟩ := open_slice_of (α := UInt8) (en := eByte) (fun _ _ => True) Tryz.underlying23 cn5 (by intro s; simp [eByte]) (fun m' cs x _ _ h => by obtain ⟨s, hs⟩ := open_u8 Tryz.underlying5 h; exact ⟨s, hs, trivial⟩) h hb
  exact ⟨s, h1, h2⟩
end
end Go.Proofs.YtimonjemjhecoaaGreatDoor
