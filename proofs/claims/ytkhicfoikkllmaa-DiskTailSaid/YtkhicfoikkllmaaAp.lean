/- A text's bytes appended to a row of bytes: where the new row lies. -/
import Derived.Test.YtkhicfoikkllmaaFrm
import Derived.Lib.AppendStr
namespace Go.Proofs.Ytkhicfoikkllmaa
open Go.RowKit
set_option linter.unusedVariables false
set_option linter.unusedSimpArgs false
theorem run_append_str {w : World} {base : Nat} {v : Value} {l : List UInt8} (ty : TypeId) (s : ByteArray) (hown : OwnB w base v l) (hbytes : l.length + s.size ≤ 70368744177664) (hbase : base ≤ w.heap.size) :
    ∃ v' w', (Builtin.append_ #[63, 9] ty #[v, .string s]).run Try.prog w = .ok v' w' ∧ OwnB w' base v' (l ++ s.data.toList) ∧ w.grownBy w' v.ownBlock ∧ (∀ k, v'.ownBlock = some k → v.ownBlock = some k ∨ k = w.heap.size) := by
  obtain ⟨i0, hi0, hz0, hz1, hz2⟩ := info_parts u8_info
  obtain ⟨v', w', hrun, h1, h2, h3⟩ := Lib.run_append_own_string (P := Try.prog) w base 63 9 ty 5 i0 Try.underlying63 Try.underlying9 hi0 hz0 hz1 hz2 v l.length (l.map B8) hown s (by unfold maxLen; omega) (by omega) hbase
  have hsl : s.data.toList.length = s.size := rfl
  refine ⟨v', w', hrun, ?_, h2, ?_⟩
  · unfold OwnB
    rw [List.length_append, List.map_append, hsl]
    exact h1
  · rcases hown.2 with ⟨rfl, hn⟩ | ⟨g, cap, cur, rfl, hbg, hg, hnc, hcm, hcs, htake⟩
    · by_cases hm : s.size = 0
      · rw [h3.2 ⟨rfl, hm⟩]
        intro k hk
        cases hk
      · have hr := run_append_nil_string (P := Try.prog) w 63 9 ty 5 i0 (.int .u8 0) Try.underlying63 Try.underlying9 hi0 hz0 s (by omega) (by omega) (by rw [hz2]; omega)
        rw [hrun] at hr
        injection hr with hr _
        subst hr
        intro k hk
        injection hk with hk
        exact .inr hk.symm
    · by_cases hroom : l.length + s.size ≤ cap
      · have hr := Lib.run_append_room_string (P := Try.prog) w 63 9 ty 5 i0 Try.underlying63 Try.underlying9 hi0 hz1 g l.length cap cur hg s hroom (by omega)
        rw [hrun] at hr
        injection hr with hr _
        subst hr
        exact fun k hk => .inl hk
      · have hr := Lib.run_append_grow_string (P := Try.prog) w 63 9 ty 5 i0 (.int .u8 0) Try.underlying63 Try.underlying9 hi0 hz0 ⟨g, 0, none⟩ l.length cap (l.map B8) (by rw [hz1]; simp) (hown.cells (g := g) rfl) s (by omega) (by omega) (by rw [hz2]; exact growslice_fits (by omega) (by omega))
        rw [hrun] at hr
        injection hr with hr _
        subst hr
        intro k hk
        injection hk with hk
        exact .inr hk.symm
theorem wpList_append_str {w : World} {ops : Array Oper} {rest : List Oper} {o : Oper} {a : Act} {Q : Exit → Act → World → Prop} (hgd : o.guard = none) (sl x : Operand)
    (ho : o.op = .call { callee := .builtin .append, args := #[sl, x], argTypes := #[63, 9] })
    (base : Nat) (v : Value) (l : List UInt8) (hs : a.eval sl = v) (hown : OwnB w base v l) (s : ByteArray) (hx : a.eval x = .string s) (hbytes : l.length + s.size ≤ 70368744177664) (hbase : base ≤ w.heap.size)
    (h : ∀ v' w', OwnB w' base v' (l ++ s.data.toList) → w.grownBy w' v.ownBlock → (∀ k, v'.ownBlock = some k → v.ownBlock = some k ∨ k = w.heap.size) → wpList Try.prog ops Q rest (a.put o.dst v') w') : wpList Try.prog ops Q (o :: rest) a w := by
  refine wpList_plain hgd fun K hK => ?_
  obtain ⟨v', w', hr, h2, h3, h4⟩ := run_append_str o.type s hown hbytes hbase
  unfold Oper.wp execOp
  simp only [ho, resolve, invoke, builtin, Sem.run_bind, Sem.run_pure, Result.andThen_ok, List.map_toArray, List.map_cons, List.map_nil, hs, hx, hr]
  exact hK _ _ (h v' w' h2 h3 h4)
end Go.Proofs.Ytkhicfoikkllmaa
