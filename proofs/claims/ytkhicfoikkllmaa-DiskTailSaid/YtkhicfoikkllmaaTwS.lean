/- Contracts: slices.Clone of bytes; a twin's file comes to life. -/
import Derived.Test.YtkhicfoikkllmaaDAct
import Derived.Test.YtkhicfoikkllmaaPM
import Derived.Lib.SliceRun
namespace Go.Proofs.Ytkhicfoikkllmaa
open Go.RowKit
set_option linter.unusedVariables false
set_option linter.unusedSimpArgs false
theorem own_empty (w : World) (t : TypeId) : (w.alloc (.cells #[] t)).ownsRow w.heap.size t 1 (.slice (some ⟨w.heap.size, 0, none⟩) 0 0) 0 [] :=
  ⟨rfl, .inr ⟨w.heap.size, 0, #[], rfl, Nat.le_refl _, heap_alloc_new _ _, Nat.le_refl _, by unfold maxLen; omega, rfl, rfl⟩⟩
set_option maxRecDepth 100000 in
set_option maxHeartbeats 1000000 in
theorem cloneB_any {w : World} {v : Value} {l : List UInt8} (h : OwnB w 0 v l) (hl : l.length ≤ 1048576) :
    Calls Try.prog 39 #[v] w fun e w' => ∃ v', e = .returned v' ∧ OwnB w' w.heap.size v' l ∧ Below w.heap.size w w' := by
  obtain ⟨i0, hi0, hz0, hz1, hz2⟩ := info_parts u8_info
  obtain ⟨A, cap, rfl⟩ := h.form
  have eN : ∀ (W : World) (a : Option Addr) (n c : Nat), (binOp .eql 63 (.slice a n c) (.slice none 0 0)).run Try.prog W = .ok (.bool a.isNone) W := fun W a n c => Lib.run_eql_slice_nil W _ _ a n c 0 0 Try.underlying63
  cases A with
  | none =>
    have hl0 : l = [] := by
      rcases h.2 with ⟨_, hn⟩ | ⟨g, cap', cur, e, _⟩
      · exact List.eq_nil_of_length_eq_zero hn
      · cases e
    subst hl0
    have hc0 : cap = 0 := by
      rcases h.2 with ⟨e, _⟩ | ⟨g, cap', cur, e, _⟩
      · injection e with _ _ e3
      · cases e
    subst hc0
    go_enter Try.func39, Try.ntmps39
    go_wp2_with fail
    go_ret
    exact ⟨_, rfl, OwnB.nil _ _, Below.refl _ _⟩
  | some a =>
    have hr := (h.reads).2
    have hr1 := hr.alloc (Nat.le_refl _) (.cells #[] 5)
    have hown := own_empty w 5
    have hone : ∀ u ∈ l.map B8, u.oneCell' = true := by
      intro u hu
      obtain ⟨c, _, rfl⟩ := List.mem_map.1 hu
      rfl
    replace hone := Lib.hid hone
    go_enter Try.func39, Try.ntmps39
    go_wp2_with (at_builtin; refine wpList_append_any _ rfl (.tmp 5) (.tmp 6) 63 rfl w.heap.size 5 i0 (.int .u8 0) 1 1 Try.underlying63 hi0 hz0 hz1 hz2 rfl (by omega) (.slice (some ⟨w.heap.size, 0, none⟩) 0 0) 0 [] rfl hown w.heap.size (some a) l.length cap (l.map B8) rfl hr1 hone.out (by unfold maxLen; omega) (by omega) (by simp) ?_; intro v2 w2 hown2 hgr2 hat2)
    have hO : OwnB w2 w.heap.size v2 l := by unfold OwnB; simpa using hown2
    have hB : Below w.heap.size w w2 := ((KeptBut.of_below ((Below.refl w.heap.size w).alloc (Nat.le_refl _) (.cells #[] 5)) (S := fun k => w.heap.size ≤ k)).then_grown hgr2 (fun k e => by injection e with e; subst e; exact Nat.le_refl _)).below (fun k hk => hk) (Nat.le_refl _)
    replace hO := Lib.hid hO
    replace hB := Lib.hid hB
    clear hown2 hgr2 hat2 hown hr1
    go_wp2_with fail
    go_ret
    exact ⟨_, rfl, hO.out, hB.out⟩
section
variable {w w' : World} {F : Nat → Prop} {d : Nat} {L : Lay} {s : Dsk}
/-- A file that was dead has a box and a row. -/
theorem DskAt.revive (h : DskAt w F d L s) {i : Nat} {f : Fil} (hi : s.files[i]? = some f) (hdead : L.dead i) {b : Nat} {v : Value} (hb : Blk w b 65 #[v, .int .i64 f.k]) (ho : OwnB w 0 v f.d)
    (hbn : ∀ j, j < s.files.length → ¬ L.dead j → L.blk j ≠ b) (hvn : ∀ j, j < s.files.length → ¬ L.dead j → ∀ k, (L.row j).ownBlock = some k → v.ownBlock ≠ some k) :
    DskAt w (fun k => F k ∨ k = b ∨ v.ownBlock = some k) d { L with blk := fun j => if j = i then b else L.blk j, row := fun j => if j = i then v else L.row j, dead := fun j => L.dead j ∧ j ≠ i } s := by
  obtain ⟨f1, f2, f3, f4, f5⟩ := h.inF
  have ln : ∀ p ∈ s.names, p.2 ≠ i := fun p hp e => h.live.1 p hp (e ▸ hdead)
  have ll : ∀ p ∈ s.last, p.2 ≠ i := fun p hp e => h.live.2.1 p hp (e ▸ hdead)
  have lc : ∀ c ∈ s.chg, ∀ j, c.f = some j → j ≠ i := fun c hc j hj e => h.live.2.2.1 c hc j hj (e ▸ hdead)
  have nd : ∀ j, ¬ (L.dead j ∧ j ≠ i) → j ≠ i → ¬ L.dead j := fun j h1 h2 h3 => h1 ⟨h3, h2⟩
  refine ⟨h.box, ?_, ?_, ?_, fun j g hj hd => ?_, ⟨.inl f1, .inl f2, .inl f3, fun k e => .inl (f4 k e), fun j hj hd => ?_⟩, h.ne, fun a c ha hc da dc e => ?_, ⟨fun p hp e => h.live.1 p hp e.1, fun p hp e => h.live.2.1 p hp e.1, fun c hc j hj e => h.live.2.2.1 c hc j hj e.1, fun j hj => h.live.2.2.2 j hj.1⟩, fun a c k ha hc da dc e1 e2 => ?_⟩
  · rw [mvM_congr (g' := L.blk) (fun p hp => by simp only [if_neg (ln p hp)])]
    exact h.names
  · rw [mvM_congr (g' := L.blk) (fun p hp => by simp only [if_neg (ll p hp)])]
    exact h.last
  · rw [chgV_congr (g' := L.blk) (fun c hc j hj => by simp only [if_neg (lc c hc j hj)])]
    exact h.chg
  · by_cases e : j = i
    · subst e
      rw [hi] at hj
      injection hj with hj
      subst hj
      dsimp only
      rw [if_pos rfl, if_pos rfl]
      exact ⟨hb, ho⟩
    · dsimp only
      rw [if_neg e, if_neg e]
      exact h.file j g hj (nd j hd e)
  · by_cases e : j = i
    · subst e
      dsimp only
      rw [if_pos rfl, if_pos rfl]
      exact ⟨.inr (.inl rfl), fun k hk => .inr (.inr hk)⟩
    · dsimp only
      rw [if_neg e, if_neg e]
      exact ⟨.inl (f5 j hj (nd j hd e)).1, fun k hk => .inl ((f5 j hj (nd j hd e)).2 k hk)⟩
  · dsimp only at e
    by_cases ea : a = i <;> by_cases ec : c = i
    · omega
    · rw [if_pos ea, if_neg ec] at e
      exact absurd e.symm (hbn c hc (nd c dc ec))
    · rw [if_neg ea, if_pos ec] at e
      exact absurd e (hbn a ha (nd a da ea))
    · rw [if_neg ea, if_neg ec] at e
      exact h.inj a c ha hc (nd a da ea) (nd c dc ec) e
  · dsimp only at e1 e2
    by_cases ea : a = i <;> by_cases ec : c = i
    · omega
    · rw [if_pos ea] at e1
      rw [if_neg ec] at e2
      exact absurd e1 (hvn c hc (nd c dc ec) k e2)
    · rw [if_neg ea] at e1
      rw [if_pos ec] at e2
      exact absurd e2 (hvn a ha (nd a da ea) k e1)
    · rw [if_neg ea] at e1
      rw [if_neg ec] at e2
      exact h.rows a c k ha hc (nd a da ea) (nd c dc ec) e1 e2
end
end Go.Proofs.Ytkhicfoikkllmaa
