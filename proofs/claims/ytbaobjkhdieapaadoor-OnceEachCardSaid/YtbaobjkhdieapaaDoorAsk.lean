/- once.Ask over the law's view. -/
import Derived.Test.YtbaobjkhdieapaaDoorGet
import Derived.Test.YtbaobjkhdieapaaDoorT
namespace Go.Proofs.YtbaobjkhdieapaaDoor
open Go.RowKit
set_option linter.unusedVariables false
set_option linter.unusedSimpArgs false

def askL (l : List Op3) (c : Nat) (n : Nat) : ByteArray × Bool × Int :=
  if (getL l (bs (clientL c))).2 = false then (⟨#[]⟩, false, 0) else
  match readClient (getL l (bs (clientL c))).1.data.toList with
  | none => (⟨#[]⟩, false, 0)
  | some (last, t) => if last < n then (⟨#[]⟩, false, 0) else if n < last then (⟨#[]⟩, false, 27) else (bs t, true, 0)
def outAsk (r : ByteArray × Bool × Int) : Value := .tuple #[.string r.1, .bool r.2.1, .int .i64 r.2.2]

theorem below_set {B b o : Nat} {v : Value} {w w' : World} (h : Below B w w') (hb : b < B) : Below B (w.setCell ⟨b, o, none⟩ v) (w'.setCell ⟨b, o, none⟩ v) := by
  refine ⟨h.os, h.tape, h.output, by simpa [World.setCell] using h.size, fun k hk => ?_⟩
  by_cases hkb : k = b
  · subst hkb
    have := h.block k hk
    simp [World.setCell, Array.getElem?_modify, this]
  · rw [Below.heap_setCell _ _ _ _ hkb, Below.heap_setCell _ _ _ _ hkb]
    exact h.block k hk

/-- What the operations of 'value, ok := v.Get(rows.ClientKey(client))' leave. -/
def gTau (p : Value) (c : Int) (key : ByteArray) (r : ByteArray × Bool) : Nat → Value → World → Prop
  | 0, v, _ => v = p
  | 1, v, _ => v = .int .u8 c
  | 2, v, _ => v = .string key
  | 3, v, _ => v = .func (Fn.method "Get") #[p] #[]
  | 4, v, _ => v = .func (Fn.method "Get") #[p] #[]
  | 5, v, _ => v = p
  | 6, v, _ => v = .tuple #[.string r.1, .bool r.2]
  | 7, v, _ => v = .tuple #[.string r.1, .bool r.2]
  | 8, v, _ => v = .string r.1
  | 9, v, _ => v = .bool r.2
  | 10, v, _ => v = .string r.1
  | 11, v, _ => v = .bool r.2
  | _, _, _ => True
theorem gTau_any {p : Value} {c : Int} {key : ByteArray} {r : ByteArray × Bool} {w w' : World} (i : Nat) (u : Value) (h : gTau p c key r i u w) : gTau p c key r i u w' := by
  unfold gTau at *
  split at h <;> exact h

def gJ (w W : World) (d : Nat → Bool) (wx : World) : Prop := Below w.heap.size (if d 6 = true then W else w) wx
theorem gJ.other {w W : World} {d : Nat → Bool} {wx : World} (h : gJ w W d wx) (i : Nat) (hi : 6 ≠ i) : gJ w W (setD d i) wx := by
  unfold gJ setD at *
  rw [if_neg hi]
  exact h
theorem gJ.step {w W : World} {d : Nat → Bool} {wx wy : World} (h : gJ w W d wx) (hs : w.heap.size ≤ wx.heap.size) (hb : Below wx.heap.size wx wy) : gJ w W d wy := by
  unfold gJ at *
  exact h.trans (hb.mono hs)
theorem gJ.size {w W : World} {d : Nat → Bool} {wx : World} (h : gJ w W d wx) (hW : W.heap.size = w.heap.size) : w.heap.size ≤ wx.heap.size := by
  unfold gJ at h
  have := h.size
  split at this <;> omega
theorem gJ.before {w W : World} {d : Nat → Bool} {wx : World} (h : gJ w W d wx) (hd : d 6 = false) : Below w.heap.size w wx := by
  unfold gJ at h
  rw [if_neg (by rw [hd]; decide)] at h
  exact h
theorem gJ.after {w W : World} {d : Nat → Bool} {wx : World} (h : gJ w W d wx) (hd : d 6 = true) : Below w.heap.size W wx := by
  unfold gJ at h
  rwa [if_pos hd] at h
theorem gJ.done {w W : World} {d : Nat → Bool} {wx : World} (h : Below w.heap.size W wx) : gJ w W (setD d 6) wx := by
  unfold gJ setD
  simpa using h

set_option maxRecDepth 100000 in
set_option maxHeartbeats 4000000 in
theorem Ask_any (b : Nat) (A : Option Addr) (l : List Op3) (cap : Nat) (asked c n : Int) (w : World) (h : ShelfAt w b A l cap asked) (hl : l.length ≤ 4294967296) (h0 : 0 ≤ asked) (h1 : asked ≤ 4611686018427387904)
    (c0 : 0 ≤ c) (c1 : c ≤ 255) (n0 : 0 ≤ n) (n1 : n ≤ 18446744073709551615) (hv : (getL l (bs (clientL c.toNat))).1.size ≤ 1073741824) :
    Calls Tryd.prog 9 #[.iface 22 (.pointer (some ⟨b, 0, none⟩)), .int .u8 c, .int .u64 n] w fun e w' => e = .returned (outAsk (askL l c.toNat n.toNat)) ∧ Below w.heap.size (w.setCell ⟨b, 1, none⟩ (.int .i64 (asked + 1))) w' := by
  have nA : ∀ w, (nilAhead 227 22 (.pointer (some ⟨b, 0, none⟩)) "Get").run Tryd.prog w = .ok (some false) w := fun w => by kernel_rfl
  have mG : ∀ w, (method 227 22 (.pointer (some ⟨b, 0, none⟩)) "Get").run Tryd.prog w = .ok (72, .pointer (some ⟨b, 0, none⟩)) w := fun w => by kernel_rfl
  have hbl : b < w.heap.size := by
    rcases Nat.lt_or_ge b w.heap.size with h' | h'
    · exact h'
    · have := h.box; rw [Array.getElem?_eq_none h'] at this; cases this
  have hW0 : (w.setCell ⟨b, 1, none⟩ (.int .i64 (asked + 1))).heap.size = w.heap.size := by simp [World.setCell]
  go_enter Tryd.func9, Tryd.ntmps9
  go_wp2
  refine wp_region_task (gJ w (w.setCell ⟨b, 1, none⟩ (.int .i64 (asked + 1)))) (gTau (.iface 22 (.pointer (some ⟨b, 0, none⟩))) c (bs (clientL c.toNat)) (getL l (bs (clientL c.toNat)))) (fun _ => undef) ?m1 ?m2 ?m3 ?m4 (by unfold gJ; simpa using (Below.refl _ _).drew) ?m5 ?m6
  case m1 => kernel_rfl
  case m2 => kernel_rfl
  case m3 => kernel_rfl
  case m4 => kernel_rfl
  case m5 =>
    refine ⟨?o0, ?o1, ?o2, ?o3, ?o4, ?o5, ?o6, ?o7, ?o8, ?o9, ?o10, ?o11, trivial⟩
    case o0 =>
      intro d us wx hd hJ hp hu hi
      refine .inl ⟨by kernel_rfl, fun K Q hK => ?_⟩
      simp only [putAll, Act.put, Nat.reduceAdd] at hK ⊢
      go_simp
      refine Eq.mp ?_ (hK (.iface 22 (.pointer (some ⟨b, 0, none⟩))) _ (hJ.other 0 (by decide)) rfl (fun k u _ h => gTau_any k u h))
      kernel_rfl
    case o1 =>
      intro d us wx hd hJ hp hu hi
      refine .inl ⟨by kernel_rfl, fun K Q hK => ?_⟩
      simp only [putAll, Act.put, Nat.reduceAdd] at hK ⊢
      go_simp
      refine Eq.mp ?_ (hK (.int .u8 c) _ (hJ.other 1 (by decide)) rfl (fun k u _ h => gTau_any k u h))
      kernel_rfl
    case o2 =>
      intro d us wx hd hJ hp hu hi
      have h1 : us 1 = _ := (hp 1 (by simp [Region.binds])).2
      refine .inl ⟨by kernel_rfl, fun K Q hK => ?_⟩
      simp only [putAll, Act.put, Nat.reduceAdd, h1] at hK ⊢
      go_simp
      go_at_call 16
      refine (ClientKey_any c _ c0 c1).mono ?_
      rintro e w1 ⟨rfl, hb1⟩
      refine Eq.mp ?_ (hK (.string (bs (clientL c.toNat))) w1 ((hJ.other 2 (by decide)).step (hJ.size hW0) hb1) rfl (fun k u _ h => gTau_any k u h))
      kernel_rfl
    case o3 =>
      intro d us wx hd hJ hp hu hi
      have h0 : us 0 = _ := (hp 0 (by simp [Region.binds])).2
      refine .inl ⟨by kernel_rfl, fun K Q hK => ?_⟩
      simp only [putAll, Act.put, Nat.reduceAdd, h0] at hK ⊢
      go_simp
      refine Eq.mp ?_ (hK (.func (Fn.method "Get") #[.iface 22 (.pointer (some ⟨b, 0, none⟩))] #[]) _ (hJ.other 3 (by decide)) rfl (fun k u _ h => gTau_any k u h))
      kernel_rfl
    case o4 =>
      intro d us wx hd hJ hp hu hi
      have h3 : us 3 = _ := (hp 3 (by simp [Region.binds])).2
      refine .inl ⟨by kernel_rfl, fun K Q hK => ?_⟩
      simp only [putAll, Act.put, Nat.reduceAdd, h3] at hK ⊢
      go_simp
      refine Eq.mp ?_ (hK (.func (Fn.method "Get") #[.iface 22 (.pointer (some ⟨b, 0, none⟩))] #[]) _ (hJ.other 4 (by decide)) rfl (fun k u _ h => gTau_any k u h))
      kernel_rfl
    case o5 =>
      intro d us wx hd hJ hp hu hi
      have h0 : us 0 = _ := (hp 0 (by simp [Region.binds])).2
      refine .inl ⟨by kernel_rfl, fun K Q hK => ?_⟩
      simp only [putAll, Act.put, Nat.reduceAdd, h0] at hK ⊢
      go_simp
      refine Eq.mp ?_ (hK (.iface 22 (.pointer (some ⟨b, 0, none⟩))) _ (hJ.other 5 (by decide)) rfl (fun k u _ h => gTau_any k u h))
      kernel_rfl
    case o6 =>
      intro d us wx hd hJ hp hu hi
      have h5 : us 5 = _ := (hp 5 (by simp [Region.binds])).2
      have h2 : us 2 = _ := (hp 2 (by simp [Region.binds])).2
      refine .inl ⟨by kernel_rfl, fun K Q hK => ?_⟩
      simp only [putAll, Act.put, Nat.reduceAdd, h5, h2] at hK ⊢
      go_simp
      go_at_call 72
      refine (Get_any b A l cap asked _ wx (h.below (hJ.before hd)) hl h0 h1).mono ?_
      rintro e w1 ⟨rfl, hb1⟩
      refine Eq.mp ?_ (hK (.tuple #[.string (getL l (bs (clientL c.toNat))).1, .bool (getL l (bs (clientL c.toNat))).2]) w1 (gJ.done ((below_set (hJ.before hd) hbl).trans (hb1.mono (hJ.size hW0)))) rfl (fun k u _ h => gTau_any k u h))
      kernel_rfl
    case o7 =>
      intro d us wx hd hJ hp hu hi
      have h6 : us 6 = _ := (hp 6 (by simp [Region.binds])).2
      refine .inl ⟨by kernel_rfl, fun K Q hK => ?_⟩
      simp only [putAll, Act.put, Nat.reduceAdd, h6] at hK ⊢
      go_simp
      refine Eq.mp ?_ (hK (.tuple #[.string (getL l (bs (clientL c.toNat))).1, .bool (getL l (bs (clientL c.toNat))).2]) _ (hJ.other 7 (by decide)) rfl (fun k u _ h => gTau_any k u h))
      kernel_rfl
    case o8 =>
      intro d us wx hd hJ hp hu hi
      have h7 : us 7 = _ := (hp 7 (by simp [Region.binds])).2
      refine .inl ⟨by kernel_rfl, fun K Q hK => ?_⟩
      simp only [putAll, Act.put, Nat.reduceAdd, h7] at hK ⊢
      go_simp
      refine Eq.mp ?_ (hK (.string (getL l (bs (clientL c.toNat))).1) _ (hJ.other 8 (by decide)) rfl (fun k u _ h => gTau_any k u h))
      kernel_rfl
    case o9 =>
      intro d us wx hd hJ hp hu hi
      have h7 : us 7 = _ := (hp 7 (by simp [Region.binds])).2
      refine .inl ⟨by kernel_rfl, fun K Q hK => ?_⟩
      simp only [putAll, Act.put, Nat.reduceAdd, h7] at hK ⊢
      go_simp
      refine Eq.mp ?_ (hK (.bool (getL l (bs (clientL c.toNat))).2) _ (hJ.other 9 (by decide)) rfl (fun k u _ h => gTau_any k u h))
      kernel_rfl
    case o10 =>
      intro d us wx hd hJ hp hu hi
      have h8 : us 8 = _ := (hp 8 (by simp [Region.binds])).2
      refine .inl ⟨by kernel_rfl, fun K Q hK => ?_⟩
      simp only [putAll, Act.put, Nat.reduceAdd, h8] at hK ⊢
      go_simp
      refine Eq.mp ?_ (hK (.string (getL l (bs (clientL c.toNat))).1) _ (hJ.other 10 (by decide)) rfl (fun k u _ h => gTau_any k u h))
      kernel_rfl
    case o11 =>
      intro d us wx hd hJ hp hu hi
      have h9 : us 9 = _ := (hp 9 (by simp [Region.binds])).2
      refine .inl ⟨by kernel_rfl, fun K Q hK => ?_⟩
      simp only [putAll, Act.put, Nat.reduceAdd, h9] at hK ⊢
      go_simp
      refine Eq.mp ?_ (hK (.bool (getL l (bs (clientL c.toNat))).2) _ (hJ.other 11 (by decide)) rfl (fun k u _ h => gTau_any k u h))
      kernel_rfl
  case m6 =>
    intro d us wx hJ hall
    have h10 : us 10 = _ := (hall 10 (by simp)).2
    have h11 : us 11 = _ := (hall 11 (by simp)).2
    have hb := hJ.after (hall 6 (by simp)).1
    have hsz := hJ.size hW0
    have hfin : ∀ w', Below wx.heap.size wx w' → Below w.heap.size (w.setCell ⟨b, 1, none⟩ (.int .i64 (asked + 1))) w' := fun w' h => hb.trans (h.mono hsz)
    simp only [putAll, Act.put, Nat.reduceAdd, h10, h11]
    clear nA mG hJ hall h hb
    cases hok : (getL l (bs (clientL c.toNat))).2 with
    | false =>
      have ha : askL l c.toNat n.toNat = (⟨#[]⟩, false, 0) := by unfold askL; rw [if_pos hok]
      go_wp2_with fail
      go_ret3
      exact ⟨by rw [ha]; rfl, hfin _ (Below.refl _ _)⟩
    | true =>
      have ha : askL l c.toNat n.toNat = (match readClient (getL l (bs (clientL c.toNat))).1.data.toList with
        | none => (⟨#[]⟩, false, 0)
        | some (last, t) => if last < n.toNat then (⟨#[]⟩, false, 0) else if n.toNat < last then (⟨#[]⟩, false, 27) else (bs t, true, 0)) := by unfold askL; rw [if_neg (by rw [hok]; decide)]
      generalize (getL l (bs (clientL c.toNat))).1 = val at *
      cases hr : readClient val.data.toList with
      | none =>
        rw [hr] at ha
        have hx := Lib.hid (fun w => ReadClient_none val w hv hr)
        replace hr := Lib.hid hr
        replace ha := Lib.hid ha
        replace hok := Lib.hid hok
        go_wp2_with fail
        refine (hx.out _).mono ?_
        rintro e w1 ⟨rfl, hb1⟩
        go_wp2_with fail
        go_ret3
        exact ⟨by rw [ha.out]; rfl, hfin _ hb1⟩
      | some q =>
        obtain ⟨last, t⟩ := q
        rw [hr] at ha
        simp only [] at ha
        have hx := Lib.hid (fun w => ReadClient_some val last t w hv hr)
        replace hr := Lib.hid hr
        replace hok := Lib.hid hok
        by_cases h1 : last < n.toNat
        · rw [if_pos h1] at ha
          have h1' : (last : Int) < n := by omega
          replace ha := Lib.hid ha
          go_wp2_with fail
          refine (hx.out _).mono ?_
          rintro e w1 ⟨rfl, hb1⟩
          go_wp2_with fail
          go_ret3
          exact ⟨by rw [ha.out]; rfl, hfin _ hb1⟩
        · rw [if_neg h1] at ha
          have h1' : ¬ (last : Int) < n := by omega
          by_cases h2 : n.toNat < last
          · rw [if_pos h2] at ha
            have h2' : n < (last : Int) := by omega
            replace ha := Lib.hid ha
            go_wp2_with fail
            refine (hx.out _).mono ?_
            rintro e w1 ⟨rfl, hb1⟩
            go_wp2_with fail
            go_ret3
            exact ⟨by rw [ha.out]; rfl, hfin _ hb1⟩
          · rw [if_neg h2] at ha
            have h2' : ¬ n < (last : Int) := by omega
            replace ha := Lib.hid ha
            go_wp2_with fail
            refine (hx.out _).mono ?_
            rintro e w1 ⟨rfl, hb1⟩
            go_wp2_with fail
            go_ret3
            exact ⟨by rw [ha.out]; rfl, hfin _ hb1⟩
end Go.Proofs.YtbaobjkhdieapaaDoor
