/- What a row's list of variables gives, and a world in which they hold it. Conditions: none. -/
import Derived.Test.YtkhkemagkcjdoaaDoorRows
import Derived.Test.YtkhkemagkcjdoaaDoorGvBase
import Derived.Test.YtkhkemagkcjdoaaDoorShelf
import Derived.Stop.LaidErr
import Derived.Lib.LaidIn
import Derived.Lib.LaidU8T
import Derived.Deep.DeepHandedRow
import Derived.Deep.DeepWitnessRowRef
import Derived.MakeChecks
import Derived.KernelRfl
namespace Go.Proofs.YtkhkemagkcjdoaaDoor.RowBase
open Go.RowKit Go.Proofs.YtkhkemagkcjdoaaDoor.Gv

theorem own : ownKnob Tryd.prog.godebug = none := by kernel_rfl
theorem laidOut : laidOutB Tryd.prog = true := by kernel_rfl

abbrev laid7 : List (String × DataW Unit) := [("math/bits.deBruijn32tab", Rows.laid_math_bits_deBruijn32tab), ("math/bits.deBruijn64tab", Rows.laid_math_bits_deBruijn64tab), ("internal/strconv.uint64pow10", Rows.laid_internal_strconv_uint64pow10), ("unicode/utf8.acceptRanges", Rows.laid_unicode_utf8_acceptRanges), ("strconv.ErrRange", Rows.laid_strconv_ErrRange), ("strconv.ErrSyntax", Rows.laid_strconv_ErrSyntax), ("unicode/utf8.first", Rows.laid_unicode_utf8_first)]

theorem cells1 : Tryd.prog.cellsOf 5 = 1 := by kernel_rfl
theorem cells8 : Tryd.prog.cellsOf 145 = 1 := by kernel_rfl
theorem cellsStr : Tryd.prog.cellsOf 9 = 1 := by kernel_rfl
theorem cellsErr : Tryd.prog.cellsOf 241 = 1 := by kernel_rfl
theorem star : "*" ++ "errors.errorString" = "*errors.errorString" := by decide
theorem rowErr (u : TypeId) (h : Tryd.prog.typeName? 3 u = some "*errors.errorString") : u = 239 :=
  typeName_ptr_named (nm := "errors.errorString") (by rw [star]; kernel_rfl) (by kernel_rfl) (by decide) u (by rw [star]; exact h)
theorem gS : Tryd.prog.globalNamed "strconv.ErrSyntax" = some 1 := by kernel_rfl
theorem gR : Tryd.prog.globalNamed "strconv.ErrRange" = some 2 := by kernel_rfl
theorem tS : (Tryd.prog.globals[1]?).map (·.type) = some 39 := by kernel_rfl
theorem tR : (Tryd.prog.globals[2]?).map (·.type) = some 39 := by kernel_rfl
theorem g10 : Tryd.prog.globalNamed "internal/strconv.uint64pow10" = some 3 := by kernel_rfl
theorem t10 : (Tryd.prog.globals[3]?).map (·.type) = some 232 := by kernel_rfl
theorem g64 : Tryd.prog.globalNamed "math/bits.deBruijn64tab" = some 5 := by kernel_rfl
theorem t64 : (Tryd.prog.globals[5]?).map (·.type) = some 248 := by kernel_rfl
theorem c20 : Tryd.prog.cellsOf 232 = 20 := by kernel_rfl
theorem c64 : Tryd.prog.cellsOf 248 = 64 := by kernel_rfl

def db64 : List Int := [0, 1, 56, 2, 57, 49, 28, 3, 61, 58, 42, 50, 38, 29, 17, 4, 62, 47, 59, 36, 45, 43, 51, 22, 53, 39, 33, 30, 24, 18, 12, 5, 63, 55, 48, 27, 60, 41, 37, 16, 46, 35, 44, 21, 52, 32, 23, 11, 54, 26, 40, 15, 34, 20, 31, 10, 25, 14, 19, 9, 13, 8, 7, 6]
theorem is64 : (Rows.laid_math_bits_deBruijn64tab : DataW Unit) = Lib.tabData .u8 db64 := by rfl
theorem is10 : (Rows.laid_internal_strconv_uint64pow10 : DataW Unit) = Lib.tabData .u64 Lib.pow10Tab := by rfl

/-- WHAT THE LIST GIVES. -/
theorem gl_of {W : World} (h : laidMetH Tryd.prog laid7 W) (hS : W.ShapedOpen Tryd.prog) : Gl W := by
  rw [MakeChecks.laidMetH_plain _ _ _ (by kernel_rfl)] at h
  have h2 := h.tail
  have h3 := h2.tail
  have h5 := h3.tail.tail
  have h6 := h5.tail
  rw [is64] at h2
  rw [is10] at h3
  obtain ⟨a0, s0, hv0, -, -, -⟩ := laid_sentinel h5 gR tR Tryd.underlying39 rowErr Tryd.underlying239 Tryd.underlying241 rfl rfl Tryd.underlying9 cellsErr cellsStr
  obtain ⟨a1, s1, hv1, -, -, -⟩ := laid_sentinel h6 gS tS Tryd.underlying39 rowErr Tryd.underlying239 Tryd.underlying241 rfl rfl Tryd.underlying9 cellsErr cellsStr
  have k64 := Lib.tabIs_of_head g64 t64 Tryd.underlying248 Tryd.underlying5 cells1 c64 h2
  exact {
    maxLen := Tryd.laysM146.s1_3 W hS
    synt := ⟨_, _, by have h0 := World.var?_cell gS hv1 0; simpa using h0⟩
    rang := ⟨_, _, by have h0 := World.var?_cell gR hv0 0; simpa using h0⟩
    pow10 := Lib.tabIs_of_head g10 t10 Tryd.underlying232 Tryd.underlying145 cells8 c20 h3
    db64 := k64.cell g64 15 (by decide) }

/-! ### a world for the witness -/
abbrev synS : ByteArray := { data := #[105, 110, 118, 97, 108, 105, 100, 32, 115, 121, 110, 116, 97, 120] }
abbrev rngS : ByteArray := { data := #[118, 97, 108, 117, 101, 32, 111, 117, 116, 32, 111, 102, 32, 114, 97, 110, 103, 101] }
noncomputable def low : Nat := (World.holding Tryd.prog default ⟨#[], #[], []⟩).heap.size
def put (h : Array Obj) (g : Nat) (cs : Array Value) : Array Obj := h.modify g fun
  | .cells _ t frozen => .cells cs t frozen
  | o => o
def nums8 (l : List Nat) : Array Value := (l.map fun (z : Nat) => Value.int .u8 (z : Int)).toArray
noncomputable def laidWorld (os : Os) : World :=
  let w0 := World.holding Tryd.prog os ⟨#[.cells #[.string synS] 241, .cells #[.string rngS] 241], #[], []⟩
  let h1 := put w0.heap 1 #[.iface 239 (.pointer (some ⟨low, 0, none⟩))]
  let h2 := put h1 2 #[.iface 239 (.pointer (some ⟨low + 1, 0, none⟩))]
  let h3 := put h2 3 (Lib.pow10Tab.map fun z => Value.int .u64 z).toArray
  let h4 := put h3 4 (nums8 [0, 1, 28, 2, 29, 14, 24, 3, 30, 22, 20, 15, 25, 17, 4, 8, 31, 27, 13, 23, 21, 19, 16, 7, 26, 12, 18, 6, 11, 5, 10, 9])
  let h5 := put h4 5 (db64.map fun z => Value.int .u8 z).toArray
  let h6 := put h5 6 (nums8 Go.Pinned.utf8FirstZ)
  let h7 := put h6 7 (nums8 [128, 191, 160, 191, 128, 159, 144, 191, 128, 143, 0, 0, 0, 0, 0, 0, 0, 0, 0, 0, 0, 0, 0, 0, 0, 0, 0, 0, 0, 0, 0, 0])
  { w0 with heap := h7 }
theorem laid_met (os : Os) (args : Array Value) : laidMet Tryd.prog laid7 ((laidWorld os).forCall (fun _ _ => 0) ⟨#[], args, []⟩).memory :=
  (LaidIn.of_run (l := laid7) [1, 2, 3, 4, 5, 6, 7, low, low + 1] 8 (by kernel_rfl) (by kernel_rfl) (by kernel_rfl) (by kernel_rfl)).met

end Go.Proofs.YtkhkemagkcjdoaaDoor.RowBase
