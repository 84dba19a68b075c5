/- DiskFuse: two disks and a twin, beside one another; what is called. -/
import Derived.Test.YtkhicfoikkllmaaDTwin
import Derived.Test.YtkhicfoikkllmaaDFuS
namespace Go.Proofs.Ytkhicfoikkllmaa
open Go.RowKit
set_option linter.unusedVariables false
set_option linter.unusedSimpArgs false
theorem Fused_any {w : World} {F : Nat → Prop} {d : Nat} {L : Lay} {s : Dsk} (hL : DskAt w F d L s) : Calls Try.prog 24 #[.pointer (some ⟨d, 0, none⟩)] w fun e w' => e = .returned (.int .i64 (s.fuse : Nat)) ∧ w = w' := by
  have hn := Lib.hid (none_any hL)
  have c5 := hL.box.cell 5
  go_enter Try.func24, Try.ntmps24
  go_wp2_with fail
  refine hn.out.mono ?_
  rintro e w' ⟨rfl, rfl⟩
  go_wp2_with fail
  go_ret
  exact ⟨rfl, rfl⟩
theorem Down_any {w : World} {F : Nat → Prop} {d : Nat} {L : Lay} {s : Dsk} (hL : DskAt w F d L s) : Calls Try.prog 23 #[.pointer (some ⟨d, 0, none⟩)] w fun e w' => e = .returned (.bool s.off) ∧ w = w' := by
  have hn := Lib.hid (none_any hL)
  have c4 := hL.box.cell 4
  go_enter Try.func23, Try.ntmps23
  go_wp2_with fail
  refine hn.out.mono ?_
  rintro e w' ⟨rfl, rfl⟩
  go_wp2_with fail
  go_ret
  exact ⟨rfl, rfl⟩
structure Two (B : Nat) (w : World) (a b : Nat) (sa sb : Dsk) : Prop where
  ex : ∃ Fa Fb La Lb, DskAt w Fa a La sa ∧ DskAt w Fb b Lb sb ∧ (∀ k, Fa k → B ≤ k ∧ k < w.heap.size ∧ ¬ Fb k) ∧ ∀ k, Fb k → B ≤ k ∧ k < w.heap.size
structure Three (B : Nat) (w : World) (a b t : Nat) (sa sb st : Dsk) : Prop where
  ex : ∃ Fa Fb Ft La Lb Lt, DskAt w Fa a La sa ∧ DskAt w Fb b Lb sb ∧ DskAt w Ft t Lt st ∧ (∀ k, Fa k → B ≤ k ∧ k < w.heap.size ∧ ¬ Fb k ∧ ¬ Ft k) ∧ (∀ k, Fb k → B ≤ k ∧ k < w.heap.size ∧ ¬ Ft k) ∧ ∀ k, Ft k → B ≤ k ∧ k < w.heap.size
section
variable {B : Nat} {w : World} {a b t : Nat} {sa sb st : Dsk} {m C : Nat}
theorem Three.two (h : Three B w a b t sa sb st) : Two B w a b sa sb := by
  obtain ⟨Fa, Fb, Ft, La, Lb, Lt, h1, h2, h3, h4, h5, h6⟩ := h.ex
  exact ⟨Fa, Fb, La, Lb, h1, h2, fun k hk => ⟨(h4 k hk).1, (h4 k hk).2.1, (h4 k hk).2.2.1⟩, fun k hk => ⟨(h5 k hk).1, (h5 k hk).2.1⟩⟩
theorem Two.down (h : Two B w a b sa sb) : Calls Try.prog 23 #[.pointer (some ⟨a, 0, none⟩)] w fun e w' => e = .returned (.bool sa.off) ∧ w = w' := by
  obtain ⟨Fa, Fb, La, Lb, h1, _⟩ := h.ex
  exact Down_any h1
theorem Two.fused (h : Two B w a b sa sb) : Calls Try.prog 24 #[.pointer (some ⟨a, 0, none⟩)] w fun e w' => e = .returned (.int .i64 (sa.fuse : Nat)) ∧ w = w' := by
  obtain ⟨Fa, Fb, La, Lb, h1, _⟩ := h.ex
  exact Fused_any h1
theorem Two.twin (h : Two B w a b sa sb) (hB : B ≤ w.heap.size) (g : sb.Good m) (hm : m ≤ 536870912) :
    Calls Try.prog 20 #[.pointer (some ⟨b, 0, none⟩)] w fun e w' => ∃ t, e = .returned (.pointer (some ⟨t, 0, none⟩)) ∧ Three B w' a b t sa sb sb ∧ Below B w w' := by
  obtain ⟨Fa, Fb, La, Lb, h1, h2, h3, h4⟩ := h.ex
  refine (Twin_any h2 g hm (fun k hk => (h4 k hk).2)).mono ?_
  rintro e w' ⟨t, L', rfl, ht, hb⟩
  have hz := hb.size
  exact ⟨t, rfl, ⟨Fa, Fb, _, La, Lb, L', h1.below hb, h2.below hb, ht, fun k hk => ⟨(h3 k hk).1, by have := (h3 k hk).2.1; omega, (h3 k hk).2.2, fun e => by have := (h3 k hk).2.1; omega⟩, fun k hk => ⟨(h4 k hk).1, by have := (h4 k hk).2; omega, fun e => by have := (h4 k hk).2; omega⟩, fun k hk => by omega⟩, hb.mono hB⟩
theorem Three.doesA (h : Three B w a b t sa sb st) (hB : B ≤ w.heap.size) (g : sa.Good m) (hm : m ≤ 536870912) (x : MAct) (hx : MOk C w x) (hC : C ≤ B) (hs : MSmall x) :
    Calls Try.prog 18 #[.pointer (some ⟨a, 0, none⟩), mactV x] w fun e w' => e = .returned (.tuple #[.string (bs (sa.act x.x).2.1), .int .i64 ((sa.act x.x).2.2 : Nat)]) ∧ Three B w' a b t (sa.act x.x).1 sb st ∧ Below B w w' := by
  obtain ⟨Fa, Fb, Ft, La, Lb, Lt, h1, h2, h3, h4, h5, h6⟩ := h.ex
  refine (Does_went h1 g hm x hx (by omega) (fun k hk => by have := (h4 k hk).1; omega) hs).mono ?_
  rintro e w' ⟨rfl, hw⟩
  obtain ⟨L2, hL2⟩ := hw.at_
  have hz := hw.kept.size
  refine ⟨rfl, ⟨_, Fb, Ft, L2, Lb, Lt, hL2, h2.kept hw.kept (fun k hk e => (h4 k e).2.2.1 hk), h3.kept hw.kept (fun k hk e => (h4 k e).2.2.2 hk), fun k hk => ?_, fun k hk => ⟨(h5 k hk).1, by have := (h5 k hk).2.1; omega, (h5 k hk).2.2⟩, fun k hk => ⟨(h6 k hk).1, by have := (h6 k hk).2; omega⟩⟩, hw.kept.below (fun k e => (h4 k e).1) hB⟩
  rcases hk with hk | hk
  · exact ⟨(h4 k hk).1, by have := (h4 k hk).2.1; omega, (h4 k hk).2.2⟩
  · exact ⟨by omega, by omega, fun e => by have := (h5 k e).2.1; omega, fun e => by have := (h6 k e).2; omega⟩
theorem Three.doesB (h : Three B w a b t sa sb st) (hB : B ≤ w.heap.size) (g : sb.Good m) (hm : m ≤ 536870912) (x : MAct) (hx : MOk C w x) (hC : C ≤ B) (hs : MSmall x) :
    Calls Try.prog 18 #[.pointer (some ⟨b, 0, none⟩), mactV x] w fun e w' => e = .returned (.tuple #[.string (bs (sb.act x.x).2.1), .int .i64 ((sb.act x.x).2.2 : Nat)]) ∧ Three B w' a b t sa (sb.act x.x).1 st ∧ Below B w w' := by
  obtain ⟨Fa, Fb, Ft, La, Lb, Lt, h1, h2, h3, h4, h5, h6⟩ := h.ex
  refine (Does_went h2 g hm x hx (by omega) (fun k hk => by have := (h5 k hk).1; omega) hs).mono ?_
  rintro e w' ⟨rfl, hw⟩
  obtain ⟨L2, hL2⟩ := hw.at_
  have hz := hw.kept.size
  refine ⟨rfl, ⟨Fa, _, Ft, La, L2, Lt, h1.kept hw.kept (fun k hk e => (h4 k hk).2.2.1 e), hL2, h3.kept hw.kept (fun k hk e => (h5 k e).2.2 hk), fun k hk => ⟨(h4 k hk).1, by have := (h4 k hk).2.1; omega, ?_, (h4 k hk).2.2.2⟩, fun k hk => ?_, fun k hk => ⟨(h6 k hk).1, by have := (h6 k hk).2; omega⟩⟩, hw.kept.below (fun k e => (h5 k e).1) hB⟩
  · rintro (e | e)
    · exact (h4 k hk).2.2.1 e
    · have := (h4 k hk).2.1
      omega
  · rcases hk with hk | hk
    · exact ⟨(h5 k hk).1, by have := (h5 k hk).2.1; omega, (h5 k hk).2.2⟩
    · exact ⟨by omega, by omega, fun e => by have := (h6 k e).2; omega⟩
theorem Three.start (h : Three B w a b t sa sb st) (hB : B ≤ w.heap.size) :
    Calls Try.prog 13 #[.pointer (some ⟨a, 0, none⟩)] w fun e w' => e = .returned (.tuple #[]) ∧ Three B w' a b t sa.start sb st ∧ Below B w w' := by
  obtain ⟨Fa, Fb, Ft, La, Lb, Lt, h1, h2, h3, h4, h5, h6⟩ := h.ex
  refine (Start_any h1).mono ?_
  rintro e w' ⟨rfl, hD, hk⟩
  have hz := hk.size
  have ha := h4 a h1.inF.1
  refine ⟨rfl, ⟨Fa, Fb, Ft, La, Lb, Lt, hD, h2.kept hk (fun k hk e => ha.2.2.1 (e ▸ hk)), h3.kept hk (fun k hk e => ha.2.2.2 (e ▸ hk)), fun k hk => ⟨(h4 k hk).1, by have := (h4 k hk).2.1; omega, (h4 k hk).2.2⟩, fun k hk => ⟨(h5 k hk).1, by have := (h5 k hk).2.1; omega, (h5 k hk).2.2⟩, fun k hk => ⟨(h6 k hk).1, by have := (h6 k hk).2; omega⟩⟩, hk.below (fun k e => e ▸ ha.1) hB⟩
theorem Three.same (h : Three B w a b t sa sb st) (hB : B ≤ w.heap.size) {g : List Fil} (he : sa = { st with files := st.files ++ g }) (gt : st.Good m) (hm : m ≤ 536870912) :
    Calls Try.prog 22 #[.pointer (some ⟨a, 0, none⟩), .pointer (some ⟨t, 0, none⟩)] w fun e w' => e = .returned (.bool true) ∧ Below B w w' := by
  obtain ⟨Fa, Fb, Ft, La, Lb, Lt, h1, h2, h3, h4, h5, h6⟩ := h.ex
  have hl : sa.Like st La.dead Lt.dead := by
    subst he
    refine ⟨rfl, rfl, rfl, rfl, rfl, fun i hi _ _ => ⟨st.files[i], ?_, List.getElem?_eq_getElem hi, (gt.ok.file _ (List.getElem_mem hi)).2⟩⟩
    show (st.files ++ g)[i]? = _
    rw [List.getElem?_append_left hi]
    exact List.getElem?_eq_getElem hi
  exact (Same_any h1 h3 hl gt.ok (by have := gt.load; omega)).mono fun e w' ⟨he, hb⟩ => ⟨he, hb.mono hB⟩
/-- Two new ones. -/
theorem two_new {B : Nat} {w w1 : World} {a b : Nat} {r : Int} (ha : Dw B w a (Dsk.new r)) (hb : Dw w.heap.size w1 b (Dsk.new r)) (hw : Below w.heap.size w w1) : Two B w1 a b (Dsk.new r) (Dsk.new r) := by
  have hz := hw.size
  have hs := ha.size
  obtain ⟨La, ha⟩ := ha
  obtain ⟨Lb, hb⟩ := hb
  exact ⟨_, _, La, Lb, ha.below hw, hb, fun k hk => ⟨by omega, by omega, by omega⟩, fun k hk => by omega⟩
theorem Two.fuse (h : Two B w a b sa sb) (hB : B ≤ w.heap.size) (k : Nat) :
    Calls Try.prog 14 #[.pointer (some ⟨a, 0, none⟩), .int .i64 (k : Nat)] w fun e w' => e = .returned (.tuple #[]) ∧ Two B w' a b (sa.fused k) sb ∧ Below B w w' := by
  obtain ⟨Fa, Fb, La, Lb, h1, h2, h3, h4⟩ := h.ex
  refine (Fuse_any h1 k).mono ?_
  rintro e w' ⟨rfl, hD, hk⟩
  have hz := hk.size
  have ha := h3 a h1.inF.1
  have e : sa.setFuse (k : Int) = sa.fused k := by
    unfold Dsk.setFuse Dsk.fused
    rw [show (max (k : Int) 0).toNat = k from by omega]
  rw [e] at hD
  exact ⟨rfl, ⟨Fa, Fb, La, Lb, hD, h2.kept hk (fun j hj e => ha.2.2 (e ▸ hj)), fun j hj => ⟨(h3 j hj).1, by have := (h3 j hj).2.1; omega, (h3 j hj).2.2⟩, fun j hj => ⟨(h4 j hj).1, by have := (h4 j hj).2; omega⟩⟩, hk.below (fun j e => e ▸ ha.1) hB⟩
end
end Go.Proofs.Ytkhicfoikkllmaa
