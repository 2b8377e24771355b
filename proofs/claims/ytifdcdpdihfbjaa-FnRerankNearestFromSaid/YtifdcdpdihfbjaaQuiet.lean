/- A region that draws its order, whose operations only read and whose callees change nothing that was there: one walk. No program is named here. -/
import Derived.Test.YtifdcdpdihfbjaaMem2
import Derived.Deep.QuietTactic
import Derived.BigQuiet
import Derived.StillTailTactics
namespace Go.Proofs.Ytifdcdpdihfbjaa
open Go.RowKit
set_option linter.unusedVariables false
/-- a region that draws: its head reads (callees that leave the world alone), its tail is forced; the world behind the draw under a name -/
theorem wp_still_tail {P : Program} {id : Nat} {Q : Exit → Act → World → Prop} {a : Act} {w : World} {l : List Oper} (n : Nat) (hm : P.follows .mixedOrders = true) (hB : Region.lexTailB .any l.toArray n = true) (W : World) (hW : W = w.drew)
    (h : wpStill P l.toArray W (fun a' => wpList P l.toArray Q (l.drop n) a' W) (l.take n) a) : (Code.region id l.toArray true).wp P Q a w := by
  subst hW
  exact wp_region_still_tail n hm hB h
theorem heap_top1 {w : World} {o : Obj} {n : Nat} (h : n = w.heap.size) : (w.alloc o).drew.heap[n]? = some o := heap_top h
/-- A world in which all blocks of w are as they were. -/
structure NB (w : World) where
  wd : World
  h : Chg No w wd
instance (w : World) : Inhabited (NB w) := ⟨⟨w, Chg.refl No w⟩⟩
theorem wp_region_nb {P : Program} {id : Nat} {Q : Exit → Act → World → Prop} {a : Act} {w : World} {l : List Oper} (hm : P.follows .mixedOrders = true) (hB : Region.lexB .any l.toArray = true)
    (h : wpQuiet P l.toArray (fun w' => ∃ p : NB w, w' = p.wd) (fun a' => ∀ w', (∃ p : NB w, w' = p.wd) → Q .normal a' w') l a) : (Code.region id l.toArray true).wp P Q a w :=
  wp_region_quiet (C := fun w' => ∃ p : NB w, w' = p.wd) hm hB ⟨⟨_, (Chg.refl No w).drew⟩, rfl⟩ (by simpa using h)
/-- a callee that changes nothing that was there -/
theorem nb_of {P : Program} {f : FuncId} {args : Array Value} {w : World} {p : NB w} {v : Value} (h : Calls P f args p.wd fun e w' => e = .returned v ∧ Chg No p.wd w') :
    Calls P f args p.wd fun e w'' => e = .returned v ∧ ∃ q : NB w, w'' = q.wd :=
  h.mono fun _ _ ⟨he, hc⟩ => ⟨he, ⟨_, p.h.no hc⟩, rfl⟩
theorem nb_same {P : Program} {f : FuncId} {args : Array Value} {w : World} {p : NB w} {v : Value} (h : Calls P f args p.wd fun e w' => e = .returned v ∧ p.wd = w') :
    Calls P f args p.wd fun e w'' => e = .returned v ∧ ∃ q : NB w, w'' = q.wd :=
  h.mono fun _ _ ⟨he, hc⟩ => ⟨he, p, hc.symm⟩
/-- .. whose answer is known -/
theorem nb_ofE {P : Program} {f : FuncId} {args : Array Value} {w : World} {p : NB w} {u v : Value} (h : Calls P f args p.wd fun e w' => e = .returned u ∧ Chg No p.wd w') (hv : u = v) :
    Calls P f args p.wd fun e w'' => e = .returned v ∧ ∃ q : NB w, w'' = q.wd := by subst hv; exact nb_of h
theorem nb_sameE {P : Program} {f : FuncId} {args : Array Value} {w : World} {p : NB w} {u v : Value} (h : Calls P f args p.wd fun e w' => e = .returned u ∧ p.wd = w') (hv : u = v) :
    Calls P f args p.wd fun e w'' => e = .returned v ∧ ∃ q : NB w, w'' = q.wd := by subst hv; exact nb_same h
theorem nb_out {w w' : World} (h : ∃ p : NB w, w' = p.wd) : Chg No w w' := by
  obtain ⟨p, rfl⟩ := h
  exact p.h
theorem nb_cell {w : World} {b o : Nat} {u : Value} (h : w.cell? ⟨b, o, none⟩ = some u) : ∀ p : NB w, p.wd.cell? ⟨b, o, none⟩ = some u := fun p => cell_keep p.h h (fun e => e)
end Go.Proofs.Ytifdcdpdihfbjaa
