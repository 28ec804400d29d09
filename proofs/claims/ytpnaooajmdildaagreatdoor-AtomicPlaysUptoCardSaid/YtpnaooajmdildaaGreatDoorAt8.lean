/- Walks, printed by a program of this repository (wip/tool). -/
import Derived.Test.YtpnaooajmdildaaGreatDoorAt7
namespace Go.Proofs.YtpnaooajmdildaaGreatDoor
open Go.RowKit
open Go
attribute [local irreducible] wpList wpQuiet wpX Code.wp
set_option maxHeartbeats 1000000
set_option maxRecDepth 100000
set_option linter.unusedSimpArgs false
set_option linter.unusedVariables false


theorem Prog.cells_one (p : Prog) : ∀ v ∈ p.cells.toArray.toList, v.oneCell' = true := by
  simp [Prog.cells, Value.oneCell', Sl.val]
/-- The program without the places where its parts lie. -/
def er (p : Prog) : Prog := ⟨p.name, ⟨none, 0, p.locs.l⟩, ⟨none, 0, p.init.l⟩, ⟨none, 0, p.threads.l.map fun t => ⟨none, 0, t.l⟩⟩, p.ask, p.cond⟩
theorem er_len (p : Prog) : (er p).threads.l.length = p.threads.l.length := by simp [er]
theorem er_at (p : Prog) (k : Nat) : ((er p).threads.l.getD k default).l = (p.threads.l.getD k default).l := by
  simp only [er, List.getD_eq_getElem?_getD, List.getElem?_map]
  cases p.threads.l[k]? <;> rfl
theorem er_any (p : Prog) (f : List Ins → Bool) : (er p).threads.l.any (fun k => f k.l) = p.threads.l.any (fun k => f k.l) := by
  simp only [er, List.any_map]; rfl
attribute [simp] localF_length
theorem namesF_er (p : Prog) : namesF (er p) = namesF p := rfl
theorem rightF_er (p : Prog) : rightF (er p) = rightF p := by
  have h1 := er_any p (fun k => decide (((12 : Nat) : Int) < ((k.length : Nat) : Int)))
  have h2 := er_any p (fun k => !threadF k p.locs.l.length)
  unfold rightF
  rw [namesF_er, er_len, h1, show (er p).locs.l.length = p.locs.l.length from rfl, h2]
  rfl
theorem mayN_er (p : Prog) (S : List UInt8) (k : Nat) : mayN (er p) S k = mayN p S k := by unfold mayN; rw [er_len, er_at]
theorem mayF_er (p : Prog) (S : List UInt8) (t : Int) : mayF (er p) S t = mayF p S t := by unfold mayF; rw [mayN_er]
theorem insAt_er (p : Prog) (k n : Nat) : insAt (er p) k n = insAt p k n := by unfold insAt; rw [er_at]
theorem goesF_er (p : Prog) (S : List UInt8) (k : Nat) : goesF (er p) S k = goesF p S k := by unfold goesF; rw [insAt_er]
theorem aRightF_er (p : Prog) (s : List UInt8) : aRightF (er p) s = aRightF p s := by
  have h1 : aRightF_a (er p) s = aRightF_a p s := by
    funext r a
    simp only [aRightF_a, er_len, er_at]
  unfold aRightF
  rw [rightF_er, h1]
  rfl
theorem startF_er (p : Prog) : startF (er p) = startF p := by unfold startF; rw [rightF_er]; rfl
theorem loopL_map {α β σ ρ : Type} (f : α → β) {B : β → (σ → ρ) → σ → ρ} {K : σ → ρ} : ∀ l : List α, loopL B K (l.map f) = loopL (fun x => B (f x)) K l
  | [] => rfl
  | x :: l => by
    funext s
    show B (f x) (loopL B K (l.map f)) s = B (f x) (loopL (fun x => B (f x)) K l) s
    rw [loopL_map f l]
theorem ableF_er (p : Prog) (s : List UInt8) : ableF (er p) s = ableF p s := by
  have h1 : ∀ x, ableF_a (er p) s x = ableF_a p s default := fun x => by
    funext r a
    unfold ableF_a
    simp only [mayF_er]
  have h2 : ∀ x, ableF_a p s x = ableF_a p s default := fun x => rfl
  unfold ableF
  rw [show (er p).threads.l = p.threads.l.map (fun t => ⟨none, 0, t.l⟩) from rfl, loopL_map]
  simp only [h1]
  rw [show ableF_a p s = (fun _ => ableF_a p s default) from funext h2]
theorem movesF_er (p : Prog) (s : List UInt8) : movesF (er p) s = movesF p s := by unfold movesF; rw [aRightF_er, ableF_er]
theorem overF_er (p : Prog) (s : List UInt8) : overF (er p) s = overF p s := by unfold overF; rw [aRightF_er, ableF_er]
theorem moveF_er (p : Prog) (s : List UInt8) (t : Int) : moveF (er p) s t = moveF p s t := by unfold moveF; rw [aRightF_er, mayF_er, goesF_er]
theorem playF_er (p : Prog) (l : List UInt8) : playF (er p) l = playF p l := by
  have h1 : playF_a (er p) l = playF_a p l := by
    funext r a
    unfold playF_a
    simp only [goesF_er, ableF_er]
  unfold playF
  rw [startF_er, h1, ableF_er]

end Go.Proofs.YtpnaooajmdildaaGreatDoor
