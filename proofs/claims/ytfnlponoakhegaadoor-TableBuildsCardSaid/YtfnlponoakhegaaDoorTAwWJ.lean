/- awake: the walk. -/
import Derived.Test.YtfnlponoakhegaaDoorB20
namespace Go.Proofs.YtfnlponoakhegaaDoor
open Go.RowKit
set_option linter.unusedVariables false
set_option linter.unusedSimpArgs false
theorem OwnE.len {w : World} {B : Nat} {v : Value} {l : List Ent} (h : OwnE w B v l) : ∃ A cap, v = .slice A l.length cap := h.form
theorem updU_self {us : Nat → Value} {k : Nat} {v : Value} (h : us k = v) : us = updU us k v := by
  funext j
  unfold updU
  split
  · rename_i e
    rw [e, h]
  · rfl
def SmV (v : Value) (w : World) : Prop := ∃ g, v = .slice (some ⟨g, 0, none⟩) 3 3 ∧ g < w.heap.size ∧ ∀ j u, (entsC small3)[j]? = some u → w.cell? ⟨g, j, none⟩ = some u
def PtV (o : Nat) (v : Value) (w : World) : Prop := ∃ g, v = .pointer (some ⟨g, o, none⟩) ∧ g < w.heap.size ∧ ∀ j u, (entsC small3)[j]? = some u → w.cell? ⟨g, j, none⟩ = some u
def SlV (n : Nat) (v : Value) : Prop := ∃ A c, v = .slice A n c
def awS (k : Nat) (v : Value) (w : World) : Prop := match k with
  | 1 => SmV v w
  | 10 => SmV v w
  | 2 => PtV 0 v w
  | 11 => PtV 4 v w
  | 24 => SlV 2 v
  | 30 => SlV 3 v
  | _ => True
theorem AwT.mono {vs : List (Option Value)} {w w' : World} (hb : Below w.heap.size w w') (k : Nat) (u : Value) (h : tauL vs awS k u w) : tauL vs awS k u w' := by
  refine tauL_mono (fun k u h => ?_) k u h
  unfold awS at h ⊢
  split at h <;> first | exact h | skip
  all_goals
    obtain ⟨g, e, hl, hc⟩ := h
    exact ⟨g, e, by have := hb.size; omega, fun j u hu => (hb.cell (p := ⟨g, j, none⟩) hl).trans (hc j u hu)⟩
set_option maxRecDepth 100000 in
set_option maxHeartbeats 40000000 in
theorem awake_any (w : World) (hG : Gl w) : Calls Tryd.prog 17 #[] w fun e w' => e = .returned (.bool true) ∧ Below w.heap.size w w' := by
  obtain ⟨S, f, ix, bls, hS, hT, hE, hP⟩ := awk_plain
  have hsm := Lib.hid small_any
  have hGl := hG.lt
  go_enter Tryd.func17, Tryd.ntmps17
  go_wp2_with fail
  refine (hsm.out w).mono ?_
  rintro e w1 ⟨⟨g, rfl, hgl, hgc⟩, hb1⟩
  have hz1 := hb1.size
  have hrd : Reads w1 w1.heap.size 4 (some ⟨g, 0, none⟩) small3.length (entsC small3) := ⟨rfl, fun _ => ⟨_, rfl, hgl, fun j u hu => by rw [add_off, Nat.zero_add]; exact hgc j u hu⟩⟩
  have hbu := Built_any 7 1 (some ⟨g, 0, none⟩) small3 3 w1 (hG.below hb1 hGl) hrd (by decide) (by decide)
  rw [hS, hT, hE] at hbu
  replace hbu := Lib.hid hbu
  clear hgc hrd
  replace hS := Lib.hid hS
  replace hT := Lib.hid hT
  go_wp2_with fail
  refine hbu.out.mono ?_
  rintro e w2 ⟨rfl, hb2⟩
  have hb02 := hb1.trans (hb2.mono hz1)
  clear hb1 hb2 hbu
  have hA := hb02.alloc hb02.size (.cells #[.int .u64 7, .int .i64 1, .int .i64 3, .int .i64 (S.length : Nat), .string (bs [97]), .string (bs [98]), .int .u64 3, .int .u64 9] 26)
  have hR := Blk.new w2 26 #[.int .u64 7, .int .i64 1, .int .i64 3, .int .i64 (S.length : Nat), .string (bs [97]), .string (bs [98]), .int .u64 3, .int .u64 9]
  have hl3 : w2.heap.size < (w2.alloc (.cells #[.int .u64 7, .int .i64 1, .int .i64 3, .int .i64 (S.length : Nat), .string (bs [97]), .string (bs [98]), .int .u64 3, .int .u64 9] 26)).heap.size := by rw [World.size_alloc]; omega
  unfold tiC strV
  go_wp2_with fail
  generalize hw3 : w2.alloc (.cells #[.int .u64 7, .int .i64 1, .int .i64 3, .int .i64 (S.length : Nat), .string (bs [97]), .string (bs [98]), .int .u64 3, .int .u64 9] 26) = w3 at *
  replace hw3 := Lib.hid hw3
  have hopn := TOpen_any (bs S) w3 (by rw [bs_size]; exact hP.len) (hG.below hA hGl)
  rw [bs_data, hP.op] at hopn
  refine hopn.mono ?_
  rintro e w4 ⟨⟨gt, rfl, hTF⟩, hb4⟩
  have hA4 := hA.trans (hb4.mono hA.size)
  have hR4 := hR.below hb4 hR.lt
  have hl4 := hR4.lt
  have hTT := hTF.at_
  have hG4 := hG.below hA4 hGl
  have hsl := hP.len
  simp only at hTT
  clear hopn hb4 hA hR hl3 hTF
  have z0 := hR4.cell 0
  have z1 := hR4.cell 1
  have z2 := hR4.cell 2
  have z3 := hR4.cell 3
  have z4 := hR4.cell 4
  have z5 := hR4.cell 5
  have z6 := hR4.cell 6
  have z7 := hR4.cell 7
  simp only [List.getElem?_toArray, List.getElem?_cons_zero, List.getElem?_cons_succ] at z0 z1 z2 z3 z4 z5 z6 z7
  have k1 : (bs [97]).toList = [97] := bs_toList _
  have k2 : (bs [98]).toList = [98] := bs_toList _
  have k3 : ((S.length : Nat) : Int) = ((bs S).size : Nat) := by rw [bs_size]
  have hg1 := Get_any hTT hP.bl hP.fl hG4 ⟨#[97]⟩ (by decide) 9 (by decide)
  rw [show (⟨#[97]⟩ : ByteArray).data.toList = [97] from rfl, hP.g1] at hg1
  replace hg1 := Lib.hid hg1
  go_wp2_with fail
  refine hg1.out.mono ?_
  rintro e w5 ⟨rfl, hb5⟩
  have hTT5 := hTT.below hb5
  have hA5 := hA4.trans (hb5.mono hA4.size)
  clear hb5 z0 z1 z2 z3 z4 z5 z6 z7 hR4 hl4 hg1
  unfold entV
  simp only [Option.getD, Option.isSome]
  unfold entC
  have hE6 := Blk.new w5 33 #[.string (bs [97]), .string (bs [120]), .int .u64 5, .bool false]
  have hb6 : Below w5.heap.size w5 (w5.alloc (.cells #[.string (bs [97]), .string (bs [120]), .int .u64 5, .bool false] 33)) := (Below.refl _ _).alloc (Nat.le_refl _) _
  have hTT6 := hTT5.below hb6
  have hA6 := hA5.trans (hb6.mono hA5.size)
  have hl6 : w5.heap.size < (w5.alloc (.cells #[.string (bs [97]), .string (bs [120]), .int .u64 5, .bool false] 33)).heap.size := by rw [World.size_alloc]; omega
  go_wp2_with fail
  generalize hq6 : w5.alloc (.cells #[.string (bs [97]), .string (bs [120]), .int .u64 5, .bool false] 33) = w6 at *
  replace hq6 := Lib.hid hq6
  clear hb6 hTT5 hTT
  have hg2 := Get_any hTT6 hP.bl hP.fl (hG.below hA6 hGl) ⟨#[97]⟩ (by decide) 4 (by decide)
  rw [show (⟨#[97]⟩ : ByteArray).data.toList = [97] from rfl, hP.g2] at hg2
  refine hg2.mono ?_
  rintro e w7 ⟨rfl, hb7⟩
  have hTT7 := hTT6.below hb7
  have hA7 := hA6.trans (hb7.mono hA6.size)
  have hE7 := hE6.below hb7 hl6
  have hl7 := hE7.lt
  clear hb7 hg2 hTT6 hE6 hl6
  unfold entV
  simp only [Option.getD, Option.isSome]
  unfold entC
  have hF8 := Blk.new w7 33 #[.string (bs [97]), .string (bs []), .int .u64 3, .bool true]
  have hb8 : Below w7.heap.size w7 (w7.alloc (.cells #[.string (bs [97]), .string (bs []), .int .u64 3, .bool true] 33)) := (Below.refl _ _).alloc (Nat.le_refl _) _
  have hTT8 := hTT7.below hb8
  have hA8 := hA7.trans (hb8.mono hA7.size)
  have hE8 := hE7.below hb8 hl7
  have hl8 : w7.heap.size < (w7.alloc (.cells #[.string (bs [97]), .string (bs []), .int .u64 3, .bool true] 33)).heap.size := by rw [World.size_alloc]; omega
  go_wp2_with fail
  generalize hq8 : w7.alloc (.cells #[.string (bs [97]), .string (bs []), .int .u64 3, .bool true] 33) = w8 at *
  replace hq8 := Lib.hid hq8
  clear hb8 hTT7
  have hg3 := Get_any hTT8 hP.bl hP.fl (hG.below hA8 hGl) ⟨#[97]⟩ (by decide) 2 (by decide)
  rw [show (⟨#[97]⟩ : ByteArray).data.toList = [97] from rfl, hP.g3] at hg3
  refine hg3.mono ?_
  rintro e w9 ⟨rfl, hb9⟩
  have hTT9 := hTT8.below hb9
  have hA9 := hA8.trans (hb9.mono hA8.size)
  have hE9 := hE8.below hb9 hE8.lt
  have hF9 := hF8.below hb9 hl8
  clear hb9 hg3 hTT8 hE8 hF8
  unfold entV
  simp only [Option.getD, Option.isSome]
  unfold entC ent0
  go_wp2_with fail
  have hb10 : Below w9.heap.size w9 (w9.alloc (.cells #[.string (bs []), .string (bs []), .int .u64 0, .bool false] 33)) := (Below.refl _ _).alloc (Nat.le_refl _) _
  have hTT9 := hTT9.below hb10
  have hA9 := hA9.trans (hb10.mono hA9.size)
  have hE9 := hE9.below hb10 hE9.lt
  have hF9 := hF9.below hb10 hF9.lt
  generalize w9.alloc (.cells #[.string (bs []), .string (bs []), .int .u64 0, .bool false] 33) = wa at *
  clear hb10
  have hl5 := hE9.lt
  have hl7' := hF9.lt
  have hG9 := hG.below hA9 hGl
  have hrg1 := Lib.hid fun W (hW : Below wa.heap.size wa W) => Range_any (hTT9.below hW) hP.bl (hG9.below hW hG9.lt) ⟨#[97]⟩ ⟨#[98]⟩ (by decide)
  have hrg2 := Lib.hid fun W (hW : Below wa.heap.size wa W) => All_any (hTT9.below hW) hP.bl (hG9.below hW hG9.lt)
  have hmy := fun W (hW : Below wa.heap.size wa W) => tMay_any (hTT9.below hW) hP.fl ⟨#[98]⟩ (by decide)
  rw [show (⟨#[98]⟩ : ByteArray).data.toList = [98] from rfl, hP.m] at hmy
  replace hmy := Lib.hid hmy
  refine wp_region_task (fun _ wx => Below wa.heap.size wa wx) (tauL [some (.agg #[.string (bs [97]), .string (bs [120]), .int .u64 5, .bool false]), none, none, some (.agg #[.string ⟨#[97]⟩, .string ⟨#[120]⟩, .int .u64 5, .bool false]), some (.bool true), some (.bool true), some (.bool true), some (.bool true), some (.bool true), some (.agg #[.string (bs [97]), .string (bs []), .int .u64 3, .bool true]), none, none, some (.agg #[.string ⟨#[97]⟩, .string ⟨#[]⟩, .int .u64 3, .bool true]), some (.bool true), some (.bool true), some (.bool true), some (.bool true), some (.bool true), some (.bool true), some (.bool false), some (.bool true), some (.bool true), some (.bool true), some (.pointer (some ⟨gt, 0, none⟩)), none, some (.int .i64 2), some (.bool true), some (.bool true), some (.bool true), some (.pointer (some ⟨gt, 0, none⟩)), none, some (.int .i64 3), some (.bool true), some (.bool true), some (.bool true), some (.pointer (some ⟨gt, 0, none⟩)), some (.bool true), some (.bool true), some (.bool true)] awS) (usL [undef, undef, undef, undef, undef, undef, undef, undef, undef, undef, undef, undef, undef, undef, undef, undef, undef, undef, undef, undef, undef, undef, undef, undef, undef, undef, undef, undef, undef, undef, undef, undef, undef, undef, undef, undef, undef, undef, .bool false]) ?m1 ?m2 ?m3 ?m4 (Below.refl _ _).drew ?m5 ?m6
  case m1 => kernel_rfl
  case m2 => kernel_rfl
  case m3 => kernel_rfl
  case m4 => kernel_rfl
  case m5 =>
    refine ⟨?o0, ?o1, ?o2, ?o3, ?o4, ?o5, ?o6, ?o7, ?o8, ?o9, ?o10, ?o11, ?o12, ?o13, ?o14, ?o15, ?o16, ?o17, ?o18, ?o19, ?o20, ?o21, ?o22, ?o23, ?o24, ?o25, ?o26, ?o27, ?o28, ?o29, ?o30, ?o31, ?o32, ?o33, ?o34, ?o35, ?o36, ?o37, ?o38, trivial⟩
    case o0 =>
      intro d us wx hd hJ hp hu hi
      have b0 := hJ.cell (p := ⟨w5.heap.size, 0, none⟩) hl5
      have y0 := b0.trans (hE9.cell 0)
      have y1 := (hJ.cell (p := ⟨w5.heap.size, 1, none⟩) hl5).trans (hE9.cell 1)
      have y2 := (hJ.cell (p := ⟨w5.heap.size, 2, none⟩) hl5).trans (hE9.cell 2)
      have y3 := (hJ.cell (p := ⟨w5.heap.size, 3, none⟩) hl5).trans (hE9.cell 3)
      simp only [List.getElem?_toArray, List.getElem?_cons_zero, List.getElem?_cons_succ] at y0 y1 y2 y3
      clear b0
      refine .inl ⟨by kernel_rfl, fun K Q hK => ?_⟩
      simp only [putAll, Act.put, Nat.reduceAdd] at hK ⊢
      go_simp
      refine Eq.mp ?_ (hK (.agg #[.string (bs [97]), .string (bs [120]), .int .u64 5, .bool false]) _ hJ rfl (fun _ _ _ h => h))
      kernel_rfl
    case o1 =>
      intro d us wx hd hJ hp hu hi
      refine .inl ⟨by kernel_rfl, fun K Q hK => ?_⟩
      simp only [putAll, Act.put, Nat.reduceAdd] at hK ⊢
      go_simp
      refine (small_any wx).mono ?_
      rintro e w' ⟨⟨g, rfl, hgl, hgc⟩, hb⟩
      refine Eq.mp ?_ (hK (.slice (some ⟨g, 0, none⟩) 3 3) w' (hJ.trans (hb.mono hJ.size)) ⟨g, rfl, hgl, hgc⟩ (fun k u _ h => AwT.mono hb k u h))
      kernel_rfl
    case o2 =>
      intro d us wx hd hJ hp hu hi
      obtain ⟨g1, h1, l1, c1⟩ : SmV (us 1) wx := (hp 1 (by simp [Region.binds])).2
      refine .inl ⟨by kernel_rfl, fun K Q hK => ?_⟩
      simp only [putAll, Act.put, Nat.reduceAdd, h1] at hK ⊢
      go_simp
      refine Eq.mp ?_ (hK (.pointer (some ⟨g1, 0, none⟩)) _ hJ ⟨g1, rfl, l1, c1⟩ (fun _ _ _ h => h))
      kernel_rfl
    case o3 =>
      intro d us wx hd hJ hp hu hi
      obtain ⟨g2, h2, l2, c2⟩ : PtV 0 (us 2) wx := (hp 2 (by simp [Region.binds])).2
      have y0 := c2 0 _ rfl
      have y1 := c2 1 _ rfl
      have y2 := c2 2 _ rfl
      have y3 := c2 3 _ rfl
      clear c2
      refine .inl ⟨by kernel_rfl, fun K Q hK => ?_⟩
      simp only [putAll, Act.put, Nat.reduceAdd, h2] at hK ⊢
      go_simp
      refine Eq.mp ?_ (hK (.agg #[.string ⟨#[97]⟩, .string ⟨#[120]⟩, .int .u64 5, .bool false]) _ hJ rfl (fun _ _ _ h => h))
      kernel_rfl
    case o4 =>
      intro d us wx hd hJ hp hu hi
      have h0 : us 0 = _ := (hp 0 (by simp [Region.binds])).2
      have h3 : us 3 = _ := (hp 3 (by simp [Region.binds])).2
      refine .inl ⟨by kernel_rfl, fun K Q hK => ?_⟩
      simp only [putAll, Act.put, Nat.reduceAdd, h0, h3] at hK ⊢
      go_simp
      refine Eq.mp ?_ (hK (.bool true) _ hJ rfl (fun _ _ _ h => h))
      kernel_rfl
    case o5 =>
      intro d us wx hd hJ hp hu hi
      have h4 : us 4 = _ := (hp 4 (by simp [Region.binds])).2
      refine .inl ⟨by kernel_rfl, fun K Q hK => ?_⟩
      simp only [putAll, Act.put, Nat.reduceAdd, h4] at hK ⊢
      go_simp
      refine Eq.mp ?_ (hK (.bool true) _ hJ rfl (fun _ _ _ h => h))
      kernel_rfl
    case o6 =>
      intro d us wx hd hJ hp hu hi
      have h5 : us 5 = _ := (hp 5 (by simp [Region.binds])).2
      refine .inl ⟨by rw [updU_self h5]; kernel_rfl, fun K Q hK => ?_⟩
      simp only [putAll, Act.put, Nat.reduceAdd, h5] at hK ⊢
      go_simp
      refine Eq.mp ?_ (hK (.bool true) _ hJ rfl (fun _ _ _ h => h))
      kernel_rfl
    case o7 =>
      intro d us wx hd hJ hp hu hi
      have h5 : us 5 = _ := (hp 5 (by simp [Region.binds])).2
      have h6 : us 6 = _ := (hp 6 (by simp [Region.binds])).2
      refine .inl ⟨by kernel_rfl, fun K Q hK => ?_⟩
      simp only [putAll, Act.put, Nat.reduceAdd, h5, h6] at hK ⊢
      go_simp
      refine Eq.mp ?_ (hK (.bool true) _ hJ rfl (fun _ _ _ h => h))
      kernel_rfl
    case o8 =>
      intro d us wx hd hJ hp hu hi
      have h7 : us 7 = _ := (hp 7 (by simp [Region.binds])).2
      refine .inl ⟨by kernel_rfl, fun K Q hK => ?_⟩
      simp only [putAll, Act.put, Nat.reduceAdd, h7] at hK ⊢
      go_simp
      refine Eq.mp ?_ (hK (.bool true) _ hJ rfl (fun _ _ _ h => h))
      kernel_rfl
    case o9 =>
      intro d us wx hd hJ hp hu hi
      have h8 : us 8 = _ := (hp 8 (by simp [Region.binds])).2
      have y0 := (hJ.cell (p := ⟨w7.heap.size, 0, none⟩) hl7').trans (hF9.cell 0)
      have y1 := (hJ.cell (p := ⟨w7.heap.size, 1, none⟩) hl7').trans (hF9.cell 1)
      have y2 := (hJ.cell (p := ⟨w7.heap.size, 2, none⟩) hl7').trans (hF9.cell 2)
      have y3 := (hJ.cell (p := ⟨w7.heap.size, 3, none⟩) hl7').trans (hF9.cell 3)
      simp only [List.getElem?_toArray, List.getElem?_cons_zero, List.getElem?_cons_succ] at y0 y1 y2 y3
      refine .inl ⟨by rw [updU_self h8]; kernel_rfl, fun K Q hK => ?_⟩
      simp only [putAll, Act.put, Nat.reduceAdd, h8] at hK ⊢
      go_simp
      refine Eq.mp ?_ (hK (.agg #[.string (bs [97]), .string (bs []), .int .u64 3, .bool true]) _ hJ rfl (fun _ _ _ h => h))
      kernel_rfl
    case o10 =>
      intro d us wx hd hJ hp hu hi
      have h8 : us 8 = _ := (hp 8 (by simp [Region.binds])).2
      refine .inl ⟨by rw [updU_self h8]; kernel_rfl, fun K Q hK => ?_⟩
      simp only [putAll, Act.put, Nat.reduceAdd, h8] at hK ⊢
      go_simp
      refine (small_any wx).mono ?_
      rintro e w' ⟨⟨g, rfl, hgl, hgc⟩, hb⟩
      refine Eq.mp ?_ (hK (.slice (some ⟨g, 0, none⟩) 3 3) w' (hJ.trans (hb.mono hJ.size)) ⟨g, rfl, hgl, hgc⟩ (fun k u _ h => AwT.mono hb k u h))
      kernel_rfl
    case o11 =>
      intro d us wx hd hJ hp hu hi
      obtain ⟨g10, h10, l10, c10⟩ : SmV (us 10) wx := (hp 10 (by simp [Region.binds])).2
      have h8 : us 8 = _ := (hp 8 (by simp [Region.binds])).2
      refine .inl ⟨by rw [updU_self h8]; kernel_rfl, fun K Q hK => ?_⟩
      simp only [putAll, Act.put, Nat.reduceAdd, h10, h8] at hK ⊢
      go_simp
      refine Eq.mp ?_ (hK (.pointer (some ⟨g10, 4, none⟩)) _ hJ ⟨g10, rfl, l10, c10⟩ (fun _ _ _ h => h))
      kernel_rfl
    case o12 =>
      intro d us wx hd hJ hp hu hi
      obtain ⟨g11, h11, l11, c11⟩ : PtV 4 (us 11) wx := (hp 11 (by simp [Region.binds])).2
      have h8 : us 8 = _ := (hp 8 (by simp [Region.binds])).2
      have y0 := c11 4 _ rfl
      have y1 := c11 5 _ rfl
      have y2 := c11 6 _ rfl
      have y3 := c11 7 _ rfl
      clear c11
      refine .inl ⟨by rw [updU_self h8]; kernel_rfl, fun K Q hK => ?_⟩
      simp only [putAll, Act.put, Nat.reduceAdd, h11, h8] at hK ⊢
      go_simp
      refine Eq.mp ?_ (hK (.agg #[.string ⟨#[97]⟩, .string ⟨#[]⟩, .int .u64 3, .bool true]) _ hJ rfl (fun _ _ _ h => h))
      kernel_rfl
    case o13 =>
      intro d us wx hd hJ hp hu hi
      have h9 : us 9 = _ := (hp 9 (by simp [Region.binds])).2
      have h12 : us 12 = _ := (hp 12 (by simp [Region.binds])).2
      have h8 : us 8 = _ := (hp 8 (by simp [Region.binds])).2
      refine .inl ⟨by rw [updU_self h8]; kernel_rfl, fun K Q hK => ?_⟩
      simp only [putAll, Act.put, Nat.reduceAdd, h9, h12, h8] at hK ⊢
      go_simp
      refine Eq.mp ?_ (hK (.bool true) _ hJ rfl (fun _ _ _ h => h))
      kernel_rfl
    case o14 =>
      intro d us wx hd hJ hp hu hi
      have h8 : us 8 = _ := (hp 8 (by simp [Region.binds])).2
      have h13 : us 13 = _ := (hp 13 (by simp [Region.binds])).2
      refine .inl ⟨by kernel_rfl, fun K Q hK => ?_⟩
      simp only [putAll, Act.put, Nat.reduceAdd, h8, h13] at hK ⊢
      go_simp
      refine Eq.mp ?_ (hK (.bool true) _ hJ rfl (fun _ _ _ h => h))
      kernel_rfl
    case o15 =>
      intro d us wx hd hJ hp hu hi
      have h14 : us 14 = _ := (hp 14 (by simp [Region.binds])).2
      refine .inl ⟨by kernel_rfl, fun K Q hK => ?_⟩
      simp only [putAll, Act.put, Nat.reduceAdd, h14] at hK ⊢
      go_simp
      refine Eq.mp ?_ (hK (.bool true) _ hJ rfl (fun _ _ _ h => h))
      kernel_rfl
    case o16 =>
      intro d us wx hd hJ hp hu hi
      have h15 : us 15 = _ := (hp 15 (by simp [Region.binds])).2
      refine .inl ⟨by rw [updU_self h15]; kernel_rfl, fun K Q hK => ?_⟩
      simp only [putAll, Act.put, Nat.reduceAdd, h15] at hK ⊢
      go_simp
      refine Eq.mp ?_ (hK (.bool true) _ hJ rfl (fun _ _ _ h => h))
      kernel_rfl
    case o17 =>
      intro d us wx hd hJ hp hu hi
      have h15 : us 15 = _ := (hp 15 (by simp [Region.binds])).2
      have h16 : us 16 = _ := (hp 16 (by simp [Region.binds])).2
      refine .inl ⟨by kernel_rfl, fun K Q hK => ?_⟩
      simp only [putAll, Act.put, Nat.reduceAdd, h15, h16] at hK ⊢
      go_simp
      refine Eq.mp ?_ (hK (.bool true) _ hJ rfl (fun _ _ _ h => h))
      kernel_rfl
    case o18 =>
      intro d us wx hd hJ hp hu hi
      have h17 : us 17 = _ := (hp 17 (by simp [Region.binds])).2
      refine .inl ⟨by kernel_rfl, fun K Q hK => ?_⟩
      simp only [putAll, Act.put, Nat.reduceAdd, h17] at hK ⊢
      go_simp
      refine Eq.mp ?_ (hK (.bool true) _ hJ rfl (fun _ _ _ h => h))
      kernel_rfl
    case o19 =>
      intro d us wx hd hJ hp hu hi
      have h18 : us 18 = _ := (hp 18 (by simp [Region.binds])).2
      refine .inl ⟨by rw [updU_self h18]; kernel_rfl, fun K Q hK => ?_⟩
      simp only [putAll, Act.put, Nat.reduceAdd, h18] at hK ⊢
      go_simp
      refine Eq.mp ?_ (hK (.bool false) _ hJ rfl (fun _ _ _ h => h))
      kernel_rfl
    case o20 =>
      intro d us wx hd hJ hp hu hi
      have h19 : us 19 = _ := (hp 19 (by simp [Region.binds])).2
      have h18 : us 18 = _ := (hp 18 (by simp [Region.binds])).2
      refine .inl ⟨by rw [updU_self h18]; kernel_rfl, fun K Q hK => ?_⟩
      simp only [putAll, Act.put, Nat.reduceAdd, h19, h18] at hK ⊢
      go_simp
      refine Eq.mp ?_ (hK (.bool true) _ hJ rfl (fun _ _ _ h => h))
      kernel_rfl
    case o21 =>
      intro d us wx hd hJ hp hu hi
      have h18 : us 18 = _ := (hp 18 (by simp [Region.binds])).2
      have h20 : us 20 = _ := (hp 20 (by simp [Region.binds])).2
      refine .inl ⟨by kernel_rfl, fun K Q hK => ?_⟩
      simp only [putAll, Act.put, Nat.reduceAdd, h18, h20] at hK ⊢
      go_simp
      refine Eq.mp ?_ (hK (.bool true) _ hJ rfl (fun _ _ _ h => h))
      kernel_rfl
    case o22 =>
      intro d us wx hd hJ hp hu hi
      have h21 : us 21 = _ := (hp 21 (by simp [Region.binds])).2
      refine .inl ⟨by kernel_rfl, fun K Q hK => ?_⟩
      simp only [putAll, Act.put, Nat.reduceAdd, h21] at hK ⊢
      go_simp
      refine Eq.mp ?_ (hK (.bool true) _ hJ rfl (fun _ _ _ h => h))
      kernel_rfl
    case o23 =>
      intro d us wx hd hJ hp hu hi
      have h22 : us 22 = _ := (hp 22 (by simp [Region.binds])).2
      refine .inl ⟨by rw [updU_self h22]; kernel_rfl, fun K Q hK => ?_⟩
      simp only [putAll, Act.put, Nat.reduceAdd, h22] at hK ⊢
      go_simp
      refine Eq.mp ?_ (hK (.pointer (some ⟨gt, 0, none⟩)) _ hJ rfl (fun _ _ _ h => h))
      kernel_rfl
    case o24 =>
      intro d us wx hd hJ hp hu hi
      have h23 : us 23 = _ := (hp 23 (by simp [Region.binds])).2
      have h22 : us 22 = _ := (hp 22 (by simp [Region.binds])).2
      refine .inl ⟨by rw [updU_self h22]; kernel_rfl, fun K Q hK => ?_⟩
      simp only [putAll, Act.put, Nat.reduceAdd, h23, h22] at hK ⊢
      go_simp
      refine (hrg1.out wx hJ).mono ?_
      rintro e w' ⟨v, rfl, hO, hb⟩
      obtain ⟨A', c', rfl⟩ := hO.form
      refine Eq.mp ?_ (hK (.slice A' (rangeP ix bls [97] [98]).length c') w' (hJ.trans (hb.mono hJ.size)) ⟨A', c', by rw [hP.r1]⟩ (fun k u _ h => AwT.mono hb k u h))
      kernel_rfl
    case o25 =>
      intro d us wx hd hJ hp hu hi
      obtain ⟨A24, c24, h24⟩ : SlV 2 (us 24) := (hp 24 (by simp [Region.binds])).2
      have h22 : us 22 = _ := (hp 22 (by simp [Region.binds])).2
      refine .inl ⟨by rw [updU_self h22]; kernel_rfl, fun K Q hK => ?_⟩
      simp only [putAll, Act.put, Nat.reduceAdd, h24, h22] at hK ⊢
      go_simp
      refine Eq.mp ?_ (hK (.int .i64 2) _ hJ rfl (fun _ _ _ h => h))
      kernel_rfl
    case o26 =>
      intro d us wx hd hJ hp hu hi
      have h25 : us 25 = _ := (hp 25 (by simp [Region.binds])).2
      have h22 : us 22 = _ := (hp 22 (by simp [Region.binds])).2
      refine .inl ⟨by rw [updU_self h22]; kernel_rfl, fun K Q hK => ?_⟩
      simp only [putAll, Act.put, Nat.reduceAdd, h25, h22] at hK ⊢
      go_simp
      refine Eq.mp ?_ (hK (.bool true) _ hJ rfl (fun _ _ _ h => h))
      kernel_rfl
    case o27 =>
      intro d us wx hd hJ hp hu hi
      have h22 : us 22 = _ := (hp 22 (by simp [Region.binds])).2
      have h26 : us 26 = _ := (hp 26 (by simp [Region.binds])).2
      refine .inl ⟨by kernel_rfl, fun K Q hK => ?_⟩
      simp only [putAll, Act.put, Nat.reduceAdd, h22, h26] at hK ⊢
      go_simp
      refine Eq.mp ?_ (hK (.bool true) _ hJ rfl (fun _ _ _ h => h))
      kernel_rfl
    case o28 =>
      intro d us wx hd hJ hp hu hi
      have h27 : us 27 = _ := (hp 27 (by simp [Region.binds])).2
      refine .inl ⟨by kernel_rfl, fun K Q hK => ?_⟩
      simp only [putAll, Act.put, Nat.reduceAdd, h27] at hK ⊢
      go_simp
      refine Eq.mp ?_ (hK (.bool true) _ hJ rfl (fun _ _ _ h => h))
      kernel_rfl
    case o29 =>
      intro d us wx hd hJ hp hu hi
      have h28 : us 28 = _ := (hp 28 (by simp [Region.binds])).2
      refine .inl ⟨by rw [updU_self h28]; kernel_rfl, fun K Q hK => ?_⟩
      simp only [putAll, Act.put, Nat.reduceAdd, h28] at hK ⊢
      go_simp
      refine Eq.mp ?_ (hK (.pointer (some ⟨gt, 0, none⟩)) _ hJ rfl (fun _ _ _ h => h))
      kernel_rfl
    case o30 =>
      intro d us wx hd hJ hp hu hi
      have h29 : us 29 = _ := (hp 29 (by simp [Region.binds])).2
      have h28 : us 28 = _ := (hp 28 (by simp [Region.binds])).2
      refine .inl ⟨by rw [updU_self h28]; kernel_rfl, fun K Q hK => ?_⟩
      simp only [putAll, Act.put, Nat.reduceAdd, h29, h28] at hK ⊢
      go_simp
      refine (hrg2.out wx hJ).mono ?_
      rintro e w' ⟨v, rfl, hO, hb⟩
      obtain ⟨A', c', rfl⟩ := hO.form
      refine Eq.mp ?_ (hK (.slice A' (rangeP ix bls [] []).length c') w' (hJ.trans (hb.mono hJ.size)) ⟨A', c', by rw [hP.r2]⟩ (fun k u _ h => AwT.mono hb k u h))
      kernel_rfl
    case o31 =>
      intro d us wx hd hJ hp hu hi
      obtain ⟨A30, c30, h30⟩ : SlV 3 (us 30) := (hp 30 (by simp [Region.binds])).2
      have h28 : us 28 = _ := (hp 28 (by simp [Region.binds])).2
      refine .inl ⟨by rw [updU_self h28]; kernel_rfl, fun K Q hK => ?_⟩
      simp only [putAll, Act.put, Nat.reduceAdd, h30, h28] at hK ⊢
      go_simp
      refine Eq.mp ?_ (hK (.int .i64 3) _ hJ rfl (fun _ _ _ h => h))
      kernel_rfl
    case o32 =>
      intro d us wx hd hJ hp hu hi
      have h31 : us 31 = _ := (hp 31 (by simp [Region.binds])).2
      have h28 : us 28 = _ := (hp 28 (by simp [Region.binds])).2
      refine .inl ⟨by rw [updU_self h28]; kernel_rfl, fun K Q hK => ?_⟩
      simp only [putAll, Act.put, Nat.reduceAdd, h31, h28] at hK ⊢
      go_simp
      refine Eq.mp ?_ (hK (.bool true) _ hJ rfl (fun _ _ _ h => h))
      kernel_rfl
    case o33 =>
      intro d us wx hd hJ hp hu hi
      have h28 : us 28 = _ := (hp 28 (by simp [Region.binds])).2
      have h32 : us 32 = _ := (hp 32 (by simp [Region.binds])).2
      refine .inl ⟨by kernel_rfl, fun K Q hK => ?_⟩
      simp only [putAll, Act.put, Nat.reduceAdd, h28, h32] at hK ⊢
      go_simp
      refine Eq.mp ?_ (hK (.bool true) _ hJ rfl (fun _ _ _ h => h))
      kernel_rfl
    case o34 =>
      intro d us wx hd hJ hp hu hi
      have h33 : us 33 = _ := (hp 33 (by simp [Region.binds])).2
      refine .inl ⟨by kernel_rfl, fun K Q hK => ?_⟩
      simp only [putAll, Act.put, Nat.reduceAdd, h33] at hK ⊢
      go_simp
      refine Eq.mp ?_ (hK (.bool true) _ hJ rfl (fun _ _ _ h => h))
      kernel_rfl
    case o35 =>
      intro d us wx hd hJ hp hu hi
      have h34 : us 34 = _ := (hp 34 (by simp [Region.binds])).2
      refine .inl ⟨by rw [updU_self h34]; kernel_rfl, fun K Q hK => ?_⟩
      simp only [putAll, Act.put, Nat.reduceAdd, h34] at hK ⊢
      go_simp
      refine Eq.mp ?_ (hK (.pointer (some ⟨gt, 0, none⟩)) _ hJ rfl (fun _ _ _ h => h))
      kernel_rfl
    case o36 =>
      intro d us wx hd hJ hp hu hi
      have h35 : us 35 = _ := (hp 35 (by simp [Region.binds])).2
      have h34 : us 34 = _ := (hp 34 (by simp [Region.binds])).2
      refine .inl ⟨by rw [updU_self h34]; kernel_rfl, fun K Q hK => ?_⟩
      simp only [putAll, Act.put, Nat.reduceAdd, h35, h34] at hK ⊢
      go_simp
      refine (hmy.out wx hJ).mono ?_
      rintro e w' ⟨rfl, hb⟩
      refine Eq.mp ?_ (hK (.bool true) w' (hJ.trans (hb.mono hJ.size)) rfl (fun k u _ h => AwT.mono hb k u h))
      kernel_rfl
    case o37 =>
      intro d us wx hd hJ hp hu hi
      have h34 : us 34 = _ := (hp 34 (by simp [Region.binds])).2
      have h36 : us 36 = _ := (hp 36 (by simp [Region.binds])).2
      refine .inl ⟨by kernel_rfl, fun K Q hK => ?_⟩
      simp only [putAll, Act.put, Nat.reduceAdd, h34, h36] at hK ⊢
      go_simp
      refine Eq.mp ?_ (hK (.bool true) _ hJ rfl (fun _ _ _ h => h))
      kernel_rfl
    case o38 =>
      intro d us wx hd hJ hp hu hi
      have h37 : us 37 = _ := (hp 37 (by simp [Region.binds])).2
      refine .inl ⟨by kernel_rfl, fun K Q hK => ?_⟩
      simp only [putAll, Act.put, Nat.reduceAdd, h37] at hK ⊢
      go_simp
      refine Eq.mp ?_ (hK (.bool true) _ hJ rfl (fun _ _ _ h => h))
      kernel_rfl
  intro d us wx hJ hall
  have h38 : us 38 = .bool true := (hall 38 (by simp)).2
  simp only [putAll, Act.put, Nat.reduceAdd, h38]
  go_wp2_with fail
  go_ret
  exact ⟨rfl, hA9.trans (hJ.mono hA9.size)⟩
end Go.Proofs.YtfnlponoakhegaaDoor
