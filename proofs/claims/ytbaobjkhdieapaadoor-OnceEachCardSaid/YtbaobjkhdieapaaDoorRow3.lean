/- Contracts of package rows: numbers (of one), ReadClient. -/
import Derived.Test.YtbaobjkhdieapaaDoorRow2
import Derived.Test.YtbaobjkhdieapaaDoorT
namespace Go.Proofs.YtbaobjkhdieapaaDoor
open Go.RowKit
set_option linter.unusedVariables false
set_option linter.unusedSimpArgs false

/-- A slice of one number, in a block of its own. -/
def OwnN (B : Nat) (n : Int) (v : Value) (w : World) : Prop := ∃ g cap, v = .slice (some ⟨g, 0, none⟩) 1 cap ∧ B ≤ g ∧ g < w.heap.size ∧ w.cell? ⟨g, 0, none⟩ = some (.int .u64 n)
theorem OwnN.below {B : Nat} {n : Int} {v : Value} {w w' : World} (h : OwnN B n v w) (hb : Below w.heap.size w w') : OwnN B n v w' := by
  obtain ⟨g, cap, hv, hB, hg, hc⟩ := h
  exact ⟨g, cap, hv, hB, by have := hb.size; omega, by rw [hb.cell (p := ⟨g, 0, none⟩) hg]; exact hc⟩
def usL (l : List Value) : Nat → Value := fun k => l.getD k undef
/-- What the operations of 'l, value = append(l, n), value[size:]' leave. -/
def nTau (B : Nat) (n k : Int) (s : ByteArray) : Nat → Value → World → Prop
  | 0, v, _ => v = .slice none 0 0
  | 1, v, _ => v = .int .u64 n
  | 2, v, w => ∃ b, v = .slice (some ⟨b, 0, none⟩) 1 1 ∧ b < w.heap.size ∧ w.cell? ⟨b, 0, none⟩ = some (.int .u64 n)
  | 3, v, w => OwnN B n v w
  | 4, v, _ => v = .string s
  | 5, v, _ => v = .int .i64 k
  | 6, v, _ => v = .string (s.extract k.toNat s.size)
  | 7, v, w => OwnN B n v w
  | 8, v, _ => v = .string (s.extract k.toNat s.size)
  | _, _, _ => True
theorem nTau_below {B : Nat} {n k : Int} {s : ByteArray} {w w' : World} (hb : Below w.heap.size w w') (i : Nat) (u : Value) (h : nTau B n k s i u w) : nTau B n k s i u w' := by
  unfold nTau at *
  split at h <;> first | exact h | exact OwnN.below h hb | skip
  · obtain ⟨b, e, hlt, hc⟩ := h
    exact ⟨b, e, by have := hb.size; omega, by rw [hb.cell (p := ⟨b, 0, none⟩) hlt]; exact hc⟩
theorem OwnN.of_row {B : Nat} {n : Int} {v : Value} {w : World} (h : w.ownsRow B 26 1 v 1 [.int .u64 n]) : OwnN B n v w := by
  obtain ⟨g, cap, cur, hv, hB, hg, hr⟩ : ∃ g cap cur, v = .slice (some ⟨g, 0, none⟩) 1 cap ∧ B ≤ g ∧ w.heap[g]? = some (.cells cur 26 (0, 0)) ∧ True := by
    rcases h.2 with ⟨_, h0⟩ | ⟨g, cap, cur, hv, hB, hg, _⟩
    · cases h0
    · exact ⟨g, cap, cur, hv, hB, hg, trivial⟩
  subst hv
  have hc := h.cells (g := g) rfl 0 _ rfl
  refine ⟨g, cap, rfl, hB, ?_, hc⟩
  rcases Nat.lt_or_ge g w.heap.size with h' | h'
  · exact h'
  · rw [Array.getElem?_eq_none h'] at hg; cases hg
def readClient (l : List UInt8) : Option (Nat × List UInt8) := match readVar l with
  | none => none
  | some (n, k) => match readText (l.drop k) 480 with
    | none => none
    | some (t, z) => if z = (l.drop k).length then some (n, t) else none

theorem ReadText_none (s : ByteArray) (most : Int) (w : World) (hs : s.size ≤ maxLen) (h0 : -9223372036854775808 ≤ most) (h1 : most ≤ 9223372036854775807) (h : readText s.data.toList most = none) :
    Calls Tryd.prog 35 #[.string s, .int .i64 most] w fun e w' => e = .returned (.tuple #[.string ⟨#[]⟩, .int .i64 0, .bool false]) ∧ Below w.heap.size w w' := by
  have := ReadText_any s most w hs h0 h1
  rw [h] at this
  exact this
theorem ReadText_some (s : ByteArray) (most : Int) (t : List UInt8) (z : Nat) (w : World) (hs : s.size ≤ maxLen) (h0 : -9223372036854775808 ≤ most) (h1 : most ≤ 9223372036854775807) (h : readText s.data.toList most = some (t, z)) :
    Calls Tryd.prog 35 #[.string s, .int .i64 most] w fun e w' => e = .returned (.tuple #[.string (bs t), .int .i64 z, .bool true]) ∧ Below w.heap.size w w' := by
  have := ReadText_any s most w hs h0 h1
  rw [h] at this
  exact this
def NumP (o : Option (Nat × List UInt8)) (B : Nat) (e : Ending) (w' : World) : Prop := match o with
  | none => e = .returned (.tuple #[.slice none 0 0, .string ⟨#[]⟩, .bool false])
  | some (n, t) => ∃ v, e = .returned (.tuple #[v, .string (bs t), .bool true]) ∧ OwnN B n v w'
theorem NumP.none_ {o : Option (Nat × List UInt8)} {B : Nat} {w' : World} (h : o = none) : NumP o B (.returned (.tuple #[.slice none 0 0, .string ⟨#[]⟩, .bool false])) w' := by subst h; rfl
theorem NumP.some_ {o : Option (Nat × List UInt8)} {B n : Nat} {t : List UInt8} {v : Value} {w' : World} (h : o = some (n, t)) (hv : OwnN B n v w') : NumP o B (.returned (.tuple #[v, .string (bs t), .bool true])) w' := by subst h; exact ⟨v, rfl, hv⟩

set_option maxRecDepth 100000 in
set_option maxHeartbeats 4000000 in
theorem numbers_one (s : ByteArray) (w : World) (hs : s.size ≤ 1073741824) :
    Calls Tryd.prog 27 #[.string s, .int .i64 1, .int .i64 480] w fun e w' => NumP (readClient s.data.toList) w.heap.size e w' ∧ Below w.heap.size w w' := by
  obtain ⟨i0, hi0, hz0, hz1, hz2⟩ := info_parts (show (Tryd.prog.info? 26).map (fun i => (i.zero, i.size, i.bytes)) = some (some (.int .u64 0), 1, 8) by kernel_rfl)
  go_enter Tryd.func27, Tryd.ntmps27
  go_wp2
  go_loopw [0, 6, 14] (fun v l i wr => (i = .int .i64 0 ∧ v = .string s ∧ l = .slice none 0 0 ∧ Below w.heap.size w wr) ∨ (i = .int .i64 1 ∧ ∃ n k, readVar s.data.toList = some (n, k) ∧ v = .string (s.extract k s.size) ∧ OwnN w.heap.size n l wr ∧ Below w.heap.size w wr)) (fun _ _ i _ => (1 - intOf i).toNat)
  case atStart => exact .inl ⟨rfl, rfl, rfl, Below.refl _ _⟩
  case round =>
    rcases hrel with ⟨rfl, rfl, rfl, hb0⟩ | ⟨rfl, n, k, hv, rfl, ho, hb0⟩
    · cases hv : readVar s.data.toList with
      | none =>
        have hx := ReadVar_none s wr (by unfold maxLen; omega) hv
        replace hx := Lib.hid hx
        replace hv := Lib.hid hv
        go_wp2_with fail
        refine hx.out.mono ?_
        rintro e w1 ⟨rfl, hb1⟩
        go_wp2_with fail
        go_ret3
        exact ⟨NumP.none_ (by unfold readClient; rw [hv.out]), hb0.trans (hb1.mono hb0.size)⟩
      | some q =>
        obtain ⟨n, k⟩ := q
        have hx := ReadVar_some s n k wr (by unfold maxLen; omega) hv
        replace hx := Lib.hid hx
        obtain ⟨k1, k2, k3⟩ := readVar_le hv
        rw [dlen] at k2
        replace hv := Lib.hid hv
        go_wp2_with fail
        refine hx.out.mono ?_
        rintro e w1 ⟨rfl, hb1⟩
        go_wp2_with fail
        refine wp_region_task (fun _ wx => Below w1.heap.size w1 wx) (nTau w1.heap.size n k s) (usL [u24, u25, u26, u27, u28, u29, u30, .slice none 0 0, .string s]) ?m1 ?m2 ?m3 ?m4 (Below.refl _ _).drew ?m5 ?m6
        case m1 => kernel_rfl
        case m2 => kernel_rfl
        case m3 => kernel_rfl
        case m4 => kernel_rfl
        case m5 =>
          refine ⟨?o0, ?o1, ?o2, ?o3, ?o4, ?o5, ?o6, ?o7, ?o8, trivial⟩
          case o0 =>
            intro d us wx hd hJ hp hu hi
            have h7 : us 7 = .slice none 0 0 := (hu 7 (by kernel_rfl)).2
            refine .inl ⟨by kernel_rfl, fun K Q hK => ?_⟩
            simp only [putAll, Act.put, Nat.reduceAdd, h7] at hK ⊢
            go_simp
            refine Eq.mp ?_ (hK (.slice none 0 0) _ hJ rfl (fun _ _ _ h => h))
            kernel_rfl
          case o1 =>
            intro d us wx hd hJ hp hu hi
            refine .inl ⟨by kernel_rfl, fun K Q hK => ?_⟩
            simp only [putAll, Act.put, Nat.reduceAdd] at hK ⊢
            go_simp
            refine Eq.mp ?_ (hK (.int .u64 n) _ hJ rfl (fun _ _ _ h => h))
            kernel_rfl
          case o2 =>
            intro d us wx hd hJ hp hu hi
            have h1 : us 1 = _ := (hp 1 (by simp [Region.binds])).2
            refine .inl ⟨by kernel_rfl, fun K Q hK => ?_⟩
            simp only [putAll, Act.put, Nat.reduceAdd, h1] at hK ⊢
            go_simp
            refine Eq.mp ?_ (hK (.slice (some ⟨wx.heap.size, 0, none⟩) 1 1) (wx.alloc (.cells #[.int .u64 n] 26)) (hJ.alloc hJ.size _) ⟨wx.heap.size, rfl, (by rw [World.size_alloc]; omega), (by simp [go_sem])⟩ (fun i u _ h => nTau_below ((Below.refl _ _).alloc (Nat.le_refl _) _) i u h))
            kernel_rfl
          case o3 =>
            intro d us wx hd hJ hp hu hi
            have h0 : us 0 = _ := (hp 0 (by simp [Region.binds])).2
            obtain ⟨b, h2, hb2, hc2⟩ := (hp 2 (by simp [Region.binds])).2
            refine .inl ⟨by kernel_rfl, fun K Q hK => ?_⟩
            simp only [putAll, Act.put, Nat.reduceAdd, h0, h2] at hK ⊢
            refine wp_append_any wx (.tmp 24) (.tmp 26) 72 rfl w1.heap.size 26 i0 (.int .u64 0) 1 8 Tryd.underlying72 hi0 hz0 hz1 hz2 rfl (by omega) (.slice none 0 0) 0 [] (by kernel_rfl) (World.ownsRow_nil _ _ _ 1) wx.heap.size (some ⟨b, 0, none⟩) 1 1 [.int .u64 n] (by kernel_rfl) ⟨rfl, fun _ => ⟨_, rfl, hb2, fun j u hj => ?_⟩⟩ (fun u hu => by simp at hu; subst hu; rfl) (by unfold maxLen; omega) (by omega) hJ.size ?_
            · cases j with
              | zero => simp at hj; subst hj; exact hc2
              | succ j => simp at hj
            · intro v' w' hown' hg hat
              refine Eq.mp ?_ (hK v' w' (hJ.grown hg hJ.size (fun k hk => by cases hk)) (OwnN.of_row hown') (fun i u _ h => nTau_below ((Below.refl _ _).grown hg (Nat.le_refl _) (fun k hk => by cases hk)) i u h))
              kernel_rfl
          case o4 =>
            intro d us wx hd hJ hp hu hi
            have h8 : us 8 = .string s := (hu 8 (by kernel_rfl)).2
            refine .inl ⟨by kernel_rfl, fun K Q hK => ?_⟩
            simp only [putAll, Act.put, Nat.reduceAdd, h8] at hK ⊢
            go_simp
            refine Eq.mp ?_ (hK (.string s) _ hJ rfl (fun _ _ _ h => h))
            kernel_rfl
          case o5 =>
            intro d us wx hd hJ hp hu hi
            refine .inl ⟨by kernel_rfl, fun K Q hK => ?_⟩
            simp only [putAll, Act.put, Nat.reduceAdd] at hK ⊢
            go_simp
            refine Eq.mp ?_ (hK (.int .i64 k) _ hJ rfl (fun _ _ _ h => h))
            kernel_rfl
          case o6 =>
            intro d us wx hd hJ hp hu hi
            have h4 : us 4 = _ := (hp 4 (by simp [Region.binds])).2
            have h5 : us 5 = _ := (hp 5 (by simp [Region.binds])).2
            refine .inl ⟨by kernel_rfl, fun K Q hK => ?_⟩
            simp only [putAll, Act.put, Nat.reduceAdd, h4, h5] at hK ⊢
            go_simp
            refine Eq.mp ?_ (hK (.string (s.extract k s.size)) _ hJ rfl (fun _ _ _ h => h))
            kernel_rfl
          case o7 =>
            intro d us wx hd hJ hp hu hi
            obtain ⟨g, cap, h3, ho⟩ := (hp 3 (by simp [Region.binds])).2
            refine .inl ⟨by kernel_rfl, fun K Q hK => ?_⟩
            simp only [putAll, Act.put, Nat.reduceAdd, h3] at hK ⊢
            go_simp
            refine Eq.mp ?_ (hK (.slice (some ⟨g, 0, none⟩) 1 cap) _ hJ ⟨g, cap, rfl, ho⟩ (fun _ _ _ h => h))
            kernel_rfl
          case o8 =>
            intro d us wx hd hJ hp hu hi
            have h6 : us 6 = _ := (hp 6 (by simp [Region.binds])).2
            refine .inl ⟨by kernel_rfl, fun K Q hK => ?_⟩
            simp only [putAll, Act.put, Nat.reduceAdd, h6] at hK ⊢
            go_simp
            refine Eq.mp ?_ (hK (.string (s.extract k s.size)) _ hJ rfl (fun _ _ _ h => h))
            kernel_rfl
        intro d us wx hJ hall
        have h7 := (hall 7 (by simp)).2
        have h8 : us 8 = .string (s.extract k s.size) := (hall 8 (by simp)).2
        simp only [putAll, Act.put, Nat.reduceAdd, h8]
        go_wp2_with fail
        refine ⟨.inr ⟨by go_num, n, k, rfl, rfl, ?_, ?_⟩, by simp [intOf]⟩
        · obtain ⟨g, cap, e7, hg1, hg2⟩ := h7
          exact ⟨g, cap, e7, by have := hb0.size; have := hb1.size; omega, hg2⟩
        · exact (hb0.trans (hb1.mono hb0.size)).trans (hJ.mono (by have := hb0.size; have := hb1.size; omega))
    · obtain ⟨k1, k2, k3⟩ := readVar_le hv
      rw [dlen] at k2
      have hd : (s.extract k s.size).data.toList = s.data.toList.drop k := by rw [ext_bs, bs_data, List.take_of_length_le]; simp [dlen]
      have hzz : (s.extract k s.size).size ≤ maxLen := by unfold maxLen; simp; omega
      replace hd := Lib.hid hd
      replace hv := Lib.hid hv
      cases hr : readText (s.data.toList.drop k) 480 with
      | none =>
        have hT := Lib.hid (ReadText_none (s.extract k s.size) 480 wr hzz (by omega) (by omega) (by rw [hd.out]; exact hr))
        replace hr := Lib.hid hr
        go_wp2_with fail
        refine hT.out.mono ?_
        rintro e w1 ⟨rfl, hb1⟩
        go_wp2_with fail
        go_ret3
        exact ⟨NumP.none_ (by unfold readClient; rw [hv.out]; simp only []; rw [hr.out]), hb0.trans (hb1.mono hb0.size)⟩
      | some q =>
        obtain ⟨t, z⟩ := q
        have hT := Lib.hid (ReadText_some (s.extract k s.size) 480 t z wr hzz (by omega) (by omega) (by rw [hd.out]; exact hr))
        by_cases hz : z = (s.data.toList.drop k).length
        · have hz' : (z : Int) = ((s.extract k s.size).size : Nat) := by rw [hz, ← dlen, hd.out]
          simp at hz'
          replace hr := Lib.hid hr
          replace hz := Lib.hid hz
          go_wp2_with fail
          refine hT.out.mono ?_
          rintro e w1 ⟨rfl, hb1⟩
          go_wp2_with fail
          go_ret3
          refine ⟨NumP.some_ (n := n) (t := t) (by unfold readClient; rw [hv.out]; simp only []; rw [hr.out]; simp only []; rw [if_pos hz.out]) (ho.below ?_), hb0.trans (hb1.mono hb0.size)⟩
          exact hb1
        · have hz' : ¬ (z : Int) = ((s.extract k s.size).size : Nat) := by rw [← dlen, hd.out]; omega
          simp at hz'
          replace hr := Lib.hid hr
          go_wp2_with fail
          refine hT.out.mono ?_
          rintro e w1 ⟨rfl, hb1⟩
          go_wp2_with fail
          go_ret3
          exact ⟨NumP.none_ (by unfold readClient; rw [hv.out]; simp only []; rw [hr.out]; simp only []; rw [if_neg hz]), hb0.trans (hb1.mono hb0.size)⟩
end Go.Proofs.YtbaobjkhdieapaaDoor
