/- What the world must hold for the calls of this seat (the library's variables), and that it goes on to hold it while a call makes memory. Conditions: none. -/
import Derived.Test.YtkhkemagkcjdoaaDoorWWords
import Derived.Test.YtkhkemagkcjdoaaDoorProg
import Derived.Lib.LaidTab
import Derived.WalkSmall
import Derived.Lib.ItoaNum
namespace Go.Proofs.YtkhkemagkcjdoaaDoor.Gv
open Go.RowKit Go.Proofs.YtkhkemagkcjdoaaDoorW.PrintWords

/-- The variables of Go's library that are read. -/
structure Gl (w : World) : Prop where
  maxLen : ∃ m, w.cell? ⟨0, 0, none⟩ = some (.int .i64 m)
  synt : ∃ te pe, w.cell? ⟨1, 0, none⟩ = some (.iface te pe)
  rang : ∃ te pe, w.cell? ⟨2, 0, none⟩ = some (.iface te pe)
  pow10 : Lib.TabIs Tryd.prog w "internal/strconv.uint64pow10" .u64 Lib.pow10Tab
  db64 : w.cell? ⟨5, 15, none⟩ = some (.int .u8 4)

theorem var_below {w w' : World} (h : Below w.heap.size w w') {n : String} {cs : Array Value} (hv : w.var? Tryd.prog n = some cs) : w'.var? Tryd.prog n = some cs := by
  cases hg : Tryd.prog.globalNamed n with
  | none => simp [World.var?, hg] at hv
  | some g =>
    have hlt : g < w.heap.size := by
      rcases Nat.lt_or_ge g w.heap.size with h' | h'
      · exact h'
      · simp [World.var?, hg, Array.getElem?_eq_none h'] at hv
    exact var?_below h hg hlt hv

theorem Gl.below {w w' : World} (h : Below w.heap.size w w') (g : Gl w) : Gl w' where
  maxLen := let ⟨m, hm⟩ := g.maxLen; ⟨m, pw_cell_below h hm⟩
  synt := let ⟨a, b, hm⟩ := g.synt; ⟨a, b, pw_cell_below h hm⟩
  rang := let ⟨a, b, hm⟩ := g.rang; ⟨a, b, pw_cell_below h hm⟩
  pow10 := var_below h g.pow10
  db64 := pw_cell_below h g.db64

theorem Gl.drawn {w w' : World} (h : Drawn0 w w') (g : Gl w) : Gl w' := g.below h.below

theorem isEmpty_beq (l : List UInt8) : l.isEmpty = (l == []) := by cases l <;> rfl

end Go.Proofs.YtkhkemagkcjdoaaDoor.Gv
