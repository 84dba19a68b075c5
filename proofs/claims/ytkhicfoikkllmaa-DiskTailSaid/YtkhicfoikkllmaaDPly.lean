/- Contracts: plays. -/
import Derived.Test.YtkhicfoikkllmaaDGrt
namespace Go.Proofs.Ytkhicfoikkllmaa
open Go.RowKit
set_option linter.unusedVariables false
set_option linter.unusedSimpArgs false
theorem errno_info : (Try.prog.info? 35).map (fun i => (i.zero, i.size, i.bytes)) = some (some (.int .i64 0), 1, 8) := by kernel_rfl
def errsV (l : List Nat) : List Value := l.map fun e => .int .i64 (e : Nat)
/-- A disk in memory of its own, beside what was there. -/
structure Beside (w wr : World) (F : Nat → Prop) (d : Nat) (s : Dsk) (v : Value) (l : List Nat) : Prop where
  ex : ∃ F' L', DskAt wr F' d L' s ∧ (∀ j, F' j → (F j ∨ w.heap.size ≤ j) ∧ j < wr.heap.size) ∧ ∀ j, v.ownBlock = some j → ¬ F' j
  row : wr.ownsRow w.heap.size 35 1 v l.length (errsV l)
  kept : KeptBut w wr F
section
variable {w wr : World} {F : Nat → Prop} {d : Nat} {s : Dsk} {v : Value} {l : List Nat}
theorem Beside.step (h : Beside w wr F d s v l) {F' : Nat → Prop} (hF' : ∀ j, F' j → (F j ∨ w.heap.size ≤ j) ∧ j < wr.heap.size) (hv : ∀ j, v.ownBlock = some j → ¬ F' j) {w2 : World} {s' : Dsk} (hw : Went wr w2 F' d s') : Beside w w2 F d s' v l := by
  obtain ⟨L2, hL2⟩ := hw.at_
  have hs := hw.kept.size
  have hs0 := h.kept.size
  refine ⟨⟨_, L2, hL2, fun j hj => ?_, fun j hj hF => ?_⟩, own_kept h.row hw.kept hv, h.kept.trans hw.kept (fun k hk hF => ?_)⟩
  · rcases hj with hj | hj
    · have := hF' j hj; exact ⟨this.1, by omega⟩
    · exact ⟨.inr (by omega), hj.2⟩
  · have := own_lt h.row j hj
    rcases hF with hF | hF
    · exact hv j hj hF
    · omega
  · rcases (hF' k hF).1 with h1 | h1
    · exact h1
    · omega
theorem Beside.snoc (h : Beside w wr F d s v l) {ob : Obj} {w2 : World} {v2 : Value} {x : Nat} (hown : w2.ownsRow w.heap.size 35 1 v2 (l.length + 1) (errsV l ++ [.int .i64 (x : Nat)])) (hg : (wr.alloc ob).grownBy w2 v.ownBlock)
    (hat : v2.ownBlock = v.ownBlock ∨ v2.ownBlock = some (wr.heap.size + 1)) : Beside w w2 F d s v2 (l ++ [x]) := by
  obtain ⟨F', L', hD, hF', hv⟩ := h.ex
  have hk2 : KeptBut wr w2 (fun k => v.ownBlock = some k) := (KeptBut.of_below ((Below.refl _ _).alloc (Nat.le_refl _) ob)).then_grown hg (fun k e => e)
  have hs := hk2.size
  refine ⟨⟨F', L', hD.kept hk2 (fun k hk e => hv k e hk), fun j hj => ⟨(hF' j hj).1, by have := (hF' j hj).2; omega⟩, fun j hj hF => ?_⟩, ?_, h.kept.trans hk2 (fun k hk e => by have := (own_lt h.row k e).1; omega)⟩
  · rcases hat with e | e
    · rw [e] at hj; exact hv j hj hF
    · rw [e] at hj
      injection hj with hj
      have := (hF' j hF).2
      omega
  · unfold errsV at hown ⊢
    simpa using hown
theorem reads1' (w : World) (t : TypeId) (x : Value) : Reads (w.alloc (.cells #[x] t)) (w.heap.size + 1) 1 (some ⟨w.heap.size, 0, none⟩) 1 [x] :=
  ⟨rfl, fun _ => ⟨_, rfl, by simp, fun j u hu => by
    have hj : j < 1 := (List.getElem?_eq_some_iff.1 hu).1
    match j, hj with
    | 0, _ => simp at hu; subst hu; simp [Addr.add]⟩⟩
end
def acts (l : List MAct) : List AAct := l.map (·.x)
set_option maxRecDepth 100000 in
set_option maxHeartbeats 4000000 in
theorem plays_any {w : World} {F : Nat → Prop} {d : Nat} {L : Lay} {s : Dsk} {m C : Nat} (h : DskAt w F d L s) (g : s.Good m) (hm : m ≤ 500000000) (A : Option Addr) (l : List MAct) (cap : Nat) (hl : ActsAt C w A l) (hC : C ≤ w.heap.size) (hF : ∀ k, F k → C ≤ k ∧ k < w.heap.size) (hn : l.length ≤ 120) (hs : ∀ m ∈ l, MSmall m) :
    Calls Try.prog 12 #[.pointer (some ⟨d, 0, none⟩), .slice A l.length cap] w fun e w' => ∃ v, e = .returned v ∧ Beside w w' F d (s.acts (acts l)) v (s.says (acts l)) := by
  obtain ⟨i0, hi0, hz0, hz1, hz2⟩ := info_parts errno_info
  have hst : Beside w w F d s (.slice none 0 0) [] := ⟨⟨F, L, h, fun j hj => ⟨.inl hj, (hF j hj).2⟩, fun j e => by cases e⟩, World.ownsRow_nil _ _ _ _, KeptBut.refl _ _⟩
  have hgs : ∀ k, (s.acts ((acts l).take k)).Good (m + k) := fun k => by
    refine (g.acts ((acts l).take k) (fun x hx => ?_)).more (by rw [List.length_take]; omega)
    have hx2 := List.mem_of_mem_take hx
    unfold acts at hx2
    obtain ⟨y, hy, rfl⟩ := List.mem_map.1 hx2
    exact (hl.ok y hy).n
  replace hgs := Lib.hid hgs
  replace hst := Lib.hid hst
  replace hl := Lib.hid hl
  replace hs := Lib.hid hs
  go_enter Try.func12, Try.ntmps12
  go_wp2_with fail
  go_loopw [5, 6] (fun vv iv wr => ∃ k : Nat, k ≤ l.length ∧ iv = .int .i64 k ∧ Beside w wr F d (s.acts ((acts l).take k)) vv (s.says ((acts l).take k))) (fun _ iv _ => l.length - (intOf iv).toNat)
  case atStart => exact ⟨0, Nat.zero_le _, rfl, hst.out⟩
  case round =>
    obtain ⟨k, hk, rfl, hB⟩ := hrel
    by_cases hlt : k < l.length
    · have hlt' : (k : Int) < l.length := by omega
      have hkm : l[k]? = some l[k] := List.getElem?_eq_getElem hlt
      have hmem := List.getElem_mem hlt
      have hsm := hs.out _ hmem
      have hbw := hB.kept.below (B := C) (fun j hj => (hF j hj).1) hC
      have hbz := hbw.size
      have hlr := hl.out.below hbw (Nat.le_refl _)
      have hok := hlr.ok _ hmem
      obtain ⟨b, o, rfl, hbB, q0, q1, q2, q3, q4, q5, q6⟩ := hlr.at_ hkm
      have hxk : (acts l)[k]? = some (l[k]).x := by unfold acts; rw [List.getElem?_map, hkm]; rfl
      have ht1 := Dsk.acts_take hxk s
      have ht2 := Dsk.says_take hxk s
      generalize l[k] = mm at *
      obtain ⟨F', L', hD, hF', hvF⟩ := hB.ex
      have hcall := Does_went hD (hgs.out k) (by omega) mm hok (by omega) (fun j hj => by
        rcases (hF' j hj).1 with h1 | h1
        · exact (hF j h1).1
        · omega) hsm
      obtain ⟨Av, nv, cv, rfl⟩ : ∃ A n c, u5 = .slice A n c := by
        rcases hB.row.2 with ⟨e, _⟩ | ⟨_, _, _, e, _⟩
        · exact ⟨_, _, _, e⟩
        · exact ⟨_, _, _, e⟩
      unfold mactV at hcall
      generalize hsk : s.acts ((acts l).take k) = sk at *
      generalize hrk : sk.act mm.x = rk at *
      obtain ⟨sn, tn, en⟩ := rk
      simp only [] at hcall ht1 ht2
      clear hlr hok hbw hsm hD hmem
      replace hcall := Lib.hid hcall
      replace hB := Lib.hid hB
      replace hF' := Lib.hid hF'
      replace hvF := Lib.hid hvF
      replace ht1 := Lib.hid ht1
      replace ht2 := Lib.hid ht2
      replace hkm := Lib.hid hkm
      replace hxk := Lib.hid hxk
      replace hsk := Lib.hid hsk
      replace hrk := Lib.hid hrk
      go_wp2_with fail
      refine hcall.out.mono ?_
      rintro e w2 ⟨rfl, hw2⟩
      have hB2 := hB.out.step hF'.out hvF.out hw2
      have hown := hB2.row
      have hownx := World.ownsRow.alloc hown (.cells #[.int .i64 (en : Nat)] 35)
      have hrd := reads1' w2 35 (.int .i64 (en : Nat))
      have hz2' := hB2.kept.size
      have hsl : (s.says ((acts l).take k)).length ≤ 120 := by
        rw [Dsk.says_len, List.length_take]
        omega
      replace hB2 := Lib.hid hB2
      clear hw2 hown
      have hone : ∀ u ∈ [Value.int .i64 (en : Nat)], u.oneCell' = true := by
        intro u hu
        simp at hu
        subst hu
        rfl
      go_wp2_with (at_builtin; refine wpList_append_any _ rfl (.tmp 24) (.tmp 26) 32 rfl w.heap.size 35 i0 (.int .i64 0) 1 8 Try.underlying32 hi0 hz0 hz1 hz2 rfl (by omega) (.slice Av nv cv) (s.says ((acts l).take k)).length (errsV (s.says ((acts l).take k))) rfl hownx (w2.heap.size + 1) (some ⟨w2.heap.size, 0, none⟩) 1 1 [.int .i64 (en : Nat)] rfl hrd hone (by unfold maxLen; omega) (by omega) (by simp; omega) ?_; intro v2 w3 hown2 hgr2 hat2)
      have hB3 := hB2.out.snoc hown2 hgr2 (by simpa using hat2)
      rw [← ht1.out, ← ht2.out] at hB3
      replace hB3 := Lib.hid hB3
      clear hown2 hgr2 hat2 hownx hrd
      go_wp2_with fail
      go_roundw
      case rel => exact ⟨k + 1, by omega, by rfl, hB3.out⟩
      case measure => first | omega | (simp only [intOf]; omega)
    · obtain rfl : k = l.length := by omega
      have hlt' : ¬ (l.length : Int) < l.length := by omega
      have hfin := hB
      rw [List.take_of_length_le (by unfold acts; simp)] at hfin
      replace hfin := Lib.hid hfin
      replace hB := Lib.hid hB
      go_wp2_with fail
      go_ret
      exact ⟨_, rfl, hfin.out⟩
end Go.Proofs.Ytkhicfoikkllmaa
