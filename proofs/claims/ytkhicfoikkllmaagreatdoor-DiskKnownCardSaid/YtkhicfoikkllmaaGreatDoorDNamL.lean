/- What is laid of the library's variables, for the walks. -/
import Derived.Test.YtkhicfoikkllmaaGreatDoorDNam
import Derived.Test.YtkhicfoikkllmaaGreatDoorRows
import Derived.Lib.LaidTab
import Derived.Stop.LaidErr
import Derived.LaidMore
namespace Go.Proofs.YtkhicfoikkllmaaGreatDoor
open Go.RowKit Go.Lib Go.Sort
set_option linter.unusedVariables false
set_option linter.unusedSimpArgs false
set_option maxRecDepth 100000
theorem star_es : "*" ++ "errors.errorString" = "*errors.errorString" := by decide
theorem row_es (u : TypeId) (h : Tryz.prog.typeName? 3 u = some "*errors.errorString") : u = 134 :=
  typeName_ptr_named (nm := "errors.errorString") (by rw [star_es]; kernel_rfl) (by kernel_rfl) (by decide) u (by rw [star_es]; exact h)
theorem ty_syn : (Tryz.prog.globals[0]?).map (·.type) = some 46 := by kernel_rfl
theorem ty_ran : (Tryz.prog.globals[1]?).map (·.type) = some 46 := by kernel_rfl
theorem ty_tab : (Tryz.prog.globals[2]?).map (·.type) = some 119 := by kernel_rfl
theorem g_db : Tryz.prog.globalNamed "math/bits.deBruijn64tab" = some 5 := by kernel_rfl
theorem var_lt {P : Program} {g : Nat} {w : World} {n : String} {cs : Array Value} (hg : P.globalNamed n = some g) (h : w.var? P n = some cs) : g < w.heap.size := by
  unfold World.var? at h
  simp only [hg, Option.bind_some] at h
  rcases Nat.lt_or_ge g w.heap.size with h' | h'
  · exact h'
  · rw [Array.getElem?_eq_none h'] at h; simp at h
theorem laid5_of {w : World} (hL : laidMet Tryz.prog (Rows.diskNamesRow.laid) w) : Laid5 w ∧ 6 ≤ w.heap.size := by
  have hL1 : laidMet Tryz.prog [("math/bits.deBruijn32tab", Rows.laid_math_bits_deBruijn32tab), ("math/bits.deBruijn64tab", Rows.laid_math_bits_deBruijn64tab), ("internal/strconv.uint64pow10", Rows.laid_internal_strconv_uint64pow10), ("strconv.ErrRange", Rows.laid_strconv_ErrRange), ("strconv.ErrSyntax", Rows.laid_strconv_ErrSyntax)] w := hL
  have h2 := hL1.tail
  have h3 := h2.tail
  have h4 := h3.tail
  have h5 := h4.tail
  obtain ⟨a0, s0, hv0, -, -, -⟩ := laid_sentinel h5 g_syn ty_syn Tryz.underlying46 row_es Tryz.underlying134 Tryz.underlying136 rfl rfl Tryz.underlying9 (by kernel_rfl) (by kernel_rfl)
  obtain ⟨a1, s1, hv1, -, -, -⟩ := laid_sentinel h4 g_ran ty_ran Tryz.underlying46 row_es Tryz.underlying134 Tryz.underlying136 rfl rfl Tryz.underlying9 (by kernel_rfl) (by kernel_rfl)
  have htab : TabIs Tryz.prog w "internal/strconv.uint64pow10" .u64 pow10Tab := tabIs_of_head g_tab ty_tab Tryz.underlying119 Tryz.underlying22 (by kernel_rfl) (by kernel_rfl) h3
  refine ⟨⟨htab, ⟨_, _, hv0⟩, ⟨_, _, hv1⟩⟩, ?_⟩
  obtain ⟨ps, ⟨g', t', cs, fuel, p, q, hg', ht', hvar, _⟩, _⟩ := h2
  have := var_lt g_db hvar
  omega
end Go.Proofs.YtkhicfoikkllmaaGreatDoor
