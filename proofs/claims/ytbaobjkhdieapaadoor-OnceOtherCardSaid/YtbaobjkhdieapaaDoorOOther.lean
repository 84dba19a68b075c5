/- OnceOther returns true. -/
import Derived.Test.YtbaobjkhdieapaaDoorOPlays
namespace Go.Proofs.YtbaobjkhdieapaaDoor
open Go.RowKit
set_option linter.unusedVariables false
set_option linter.unusedSimpArgs false

/-- The view's rows: the client's own one, and others of other keys. -/
def Oth (o : Op3) (S : List Op3) : Prop := ∃ T, S = o :: T ∧ ∀ x ∈ T, x.key ≠ o.key
theorem getL_oth {o : Op3} {S : List Op3} (h : Oth o S) : getL S o.key = (o.val, !o.gone) := by
  obtain ⟨T, rfl, hT⟩ := h
  have : ∀ (T : List Op3) (r : ByteArray × Bool), (∀ x ∈ T, x.key ≠ o.key) → T.foldl (fun r x => if x.key = o.key then (x.val, !x.gone) else r) r = r := by
    intro T
    induction T with
    | nil => intro r _; rfl
    | cons x T ih =>
      intro r h
      rw [List.foldl_cons, if_neg (h x (by simp))]
      exact ih r (fun y hy => h y (by simp [hy]))
  unfold getL
  rw [List.foldl_cons, if_pos rfl]
  exact this T _ hT
theorem Oth.snoc {o x : Op3} {S : List Op3} (h : Oth o S) (hx : x.key ≠ o.key) : Oth o (S ++ [x]) := by
  obtain ⟨T, rfl, hT⟩ := h
  refine ⟨T ++ [x], by simp, fun y hy => ?_⟩
  simp at hy
  rcases hy with hy | rfl
  · exact hT y hy
  · exact hx
theorem Oth.one (o : Op3) : Oth o [o] := ⟨[], rfl, by simp⟩
theorem ask_oth {c n m : Nat} {a : List UInt8} {S : List Op3} (h : Oth (keepOp c n a) S) (hn : n < 18446744073709551616) (ha : a.length ≤ 480) : askL S c m = if n < m then (⟨#[]⟩, false, 0) else if m < n then (⟨#[]⟩, false, 27) else (bs a, true, 0) := by
  have hg : getL S (bs (clientL c)) = (bs (valueL n a), true) := by
    have := getL_oth h
    simpa [keepOp] using this
  unfold askL
  rw [hg]
  simp only [Bool.true_eq_false, if_false]
  rw [bs_data, readClient_value n hn a ha]
theorem readClient_more (n : Nat) (hn : n < 18446744073709551616) (a : List UInt8) (ha : a.length ≤ 480) : readClient (valueL n a ++ [122]) = none := by
  unfold readClient valueL
  rw [List.append_assoc, readVar_var n hn]
  simp only []
  rw [List.drop_left]
  have : readText (textL [a] ++ [122]) 480 = some (a, (textL [a]).length) := by
    unfold readText
    simp only [textL, List.append_nil, List.append_assoc]
    rw [readVar_var a.length (by omega)]
    simp only []
    rw [if_neg (by simp; omega)]
    simp
  rw [this]
  simp only []
  rw [if_neg (by simp)]
theorem ask_more (c n m : Nat) (a : List UInt8) (hn : n < 18446744073709551616) (ha : a.length ≤ 480) : askL [⟨bs (clientL c), bs (valueL n a) ++ ⟨#[122]⟩, false⟩] c m = (⟨#[]⟩, false, 0) := by
  have hg : getL [⟨bs (clientL c), bs (valueL n a) ++ ⟨#[122]⟩, false⟩] (bs (clientL c)) = (bs (valueL n a) ++ ⟨#[122]⟩, true) := by simp [getL]
  unfold askL
  rw [hg]
  simp only [Bool.true_eq_false, if_false]
  have : (bs (valueL n a) ++ ⟨#[122]⟩).data.toList = valueL n a ++ [122] := by
    have e : (⟨#[122]⟩ : ByteArray) = bs [122] := rfl
    rw [e, bs_append, bs_data]
  rw [this, readClient_more n hn a ha]
theorem ShelfOwn.lit (w : World) (B : Nat) (o : Op3) (hB : B ≤ w.heap.size) : ShelfOwn ((w.alloc (.cells #[.string o.key, .string o.val, .bool o.gone] 24)).alloc (.cells #[.slice (some ⟨w.heap.size, 0, none⟩) 1 1, .int .i64 0] 30)) B (w.heap.size + 1) (.slice (some ⟨w.heap.size, 0, none⟩) 1 1) [o] 0 := by
  refine ⟨?_, ?_, by simp [Value.ownBlock], by omega⟩
  · have := heap_alloc_new (w.alloc (.cells #[.string o.key, .string o.val, .bool o.gone] 24)) (.cells #[.slice (some ⟨w.heap.size, 0, none⟩) 1 1, .int .i64 0] 30)
    simpa using this
  · have h := World.ownsRow_lit (base := B) (e := 24) (size := 3) w #[.string o.key, .string o.val, .bool o.gone] 1 hB (by unfold maxLen; omega) rfl
    rw [opsV_one]
    exact World.ownsRow.alloc h _

/-- What the operations of 's.Ops = append(s.Ops, others[i])' leave. -/
def oTau (w : World) (B b : Nat) (v0 : Value) (l : List Op3) (o : Op3) (ad : Addr) (n cap k : Nat) : Nat → Value → World → Prop
  | 5, v, _ => v = .slice (some ad) n cap
  | 6, v, _ => v = .int .i64 k
  | 7, v, _ => v = .pointer (some (ad.add (k * 3)))
  | 8, v, _ => v = .agg #[.string o.key, .string o.val, .bool o.gone]
  | 9, v, wx => NewRow w [.string o.key, .string o.val, .bool o.gone] v wx
  | 10, v, wx => GotRow B b (l ++ [o]) v wx
  | 4, v, _ => v = v0
  | 0, v, _ => v = .pointer (some ⟨b, 0, none⟩)
  | 1, v, _ => v = .pointer (some ⟨b, 0, none⟩)
  | 2, v, _ => v = .pointer (some ⟨b, 0, none⟩)
  | 3, v, _ => v = .pointer (some ⟨b, 0, none⟩)
  | 11, v, _ => v = .pointer (some ⟨b, 0, none⟩)
  | 12, v, _ => v = .pointer (some ⟨b, 0, none⟩)
  | _, _, _ => True
theorem oTau_alloc {w : World} {B b : Nat} {v0 : Value} {l : List Op3} {o : Op3} {ad : Addr} {n cap k : Nat} {wx : World} (i : Nat) (u : Value) (h : oTau w B b v0 l o ad n cap k i u wx) (ob : Obj) : oTau w B b v0 l o ad n cap k i u (wx.alloc ob) := by
  unfold oTau at *
  split at h <;> first | exact h | exact NewRow.alloc h ob | exact GotRow.alloc h ob
theorem oTau_grown {w : World} {B b : Nat} {v0 : Value} {l : List Op3} {o : Op3} {ad : Addr} {n cap k : Nat} {wx wy : World} (i : Nat) (u : Value) (h7 : i ≠ 10) (h : oTau w B b v0 l o ad n cap k i u wx) (hg : wx.grownBy wy v0.ownBlock) (hr : ∀ k, v0.ownBlock = some k → k < w.heap.size) : oTau w B b v0 l o ad n cap k i u wy := by
  unfold oTau at *
  split at h <;> first | exact h | exact NewRow.grown h hg hr | exact absurd rfl h7
theorem oTau_set {w : World} {B b : Nat} {v0 : Value} {l : List Op3} {o : Op3} {ad : Addr} {n cap k : Nat} {wx : World} (i : Nat) (u : Value) (h : oTau w B b v0 l o ad n cap k i u wx) (hb : b < w.heap.size) (c : Nat) (z : Value) : oTau w B b v0 l o ad n cap k i u (wx.setCell ⟨b, c, none⟩ z) := by
  unfold oTau at *
  split at h <;> first | exact h | exact NewRow.set h hb | exact GotRow.set h

structure OthOk (x : Op3) : Prop where
  k : x.key.size ≤ 140737488355328
  v : x.val.size ≤ 140737488355328

set_option maxRecDepth 100000 in
set_option maxHeartbeats 16000000 in
theorem other_walk (A : Option Addr) (l : List Op3) (cap c n m : Nat) (a : ByteArray) (w : World) (hr : Reads w w.heap.size 3 A l.length (opsV l)) (hlen : l.length ≤ 9223372036854775807) (hx : ∀ x ∈ l, OthOk x) (hc : c ≤ 255) (hn : (n : Int) ≤ 18446744073709551615) (hm : (m : Int) ≤ 18446744073709551615) (ha : a.size ≤ 9223372036854775807) :
    Calls Tryd.prog 6 #[.slice A l.length cap, .int .u8 c, .int .u64 n, .int .u64 m, .string a] w fun e w' => e = .returned (.bool true) ∧ Below w.heap.size w w' := by
  by_cases h60 : 60 < l.length
  · have h60' : (60 : Int) < l.length := by omega
    go_enter Tryd.func6, Tryd.ntmps6
    go_wp2_with fail
    refine (awake_any _).mono ?_
    rintro e w1 ⟨rfl, hb1⟩
    go_wp2_with fail
    go_ret
    exact ⟨rfl, hb1⟩
  have h60' : ¬ (60 : Int) < l.length := by omega
  obtain ⟨i0, hi0, hz0, hz1, hz2⟩ := info_parts op_info
  have hal : (a.data.toList.take 480).length ≤ 480 := by rw [List.length_take]; omega
  have hkv : (bs (valueL n (a.data.toList.take 480))).size ≤ 498 := by rw [bs_size]; exact valueL_len _ _ hal
  have hkk : (bs (clientL c)).size ≤ 20 := by rw [bs_size]; exact clientL_len c
  by_cases h2000 : 2000 < a.size
  · have h2000' : (2000 : Int) < a.size := by omega
    have hkeep : ∀ wz, Calls Tryd.prog 7 #[.int .u8 c, .int .u64 n, .string (a.extract 0 2000)] wz fun e w' => e = .returned (.agg #[.string (bs (clientL c)), .string (bs (valueL n (a.data.toList.take 480))), .bool false]) ∧ Below wz.heap.size wz w' := by
      intro wz
      have := Keep_any c n (a.extract 0 2000) wz (by omega) (by omega) (by omega) hn (by simp; omega)
      rw [Int.toNat_natCast, Int.toNat_natCast, ext_bs, bs_data, List.drop_zero, List.take_take] at this
      rw [ext_bs, List.drop_zero]
      exact this
    replace hkeep := Lib.hid hkeep
    go_enter Tryd.func6, Tryd.ntmps6
    go_wp2_with fail
    refine (hkeep.out _).mono ?_
    rintro e w1 ⟨rfl, hb1⟩
    have z1 := hb1.size
    go_wp2_with fail
    have hS0 := ShelfOwn.lit (w1.alloc (.cells #[.string (bs (clientL c)), .string (bs (valueL n (a.data.toList.take 480))), .bool false] 24)) (w1.heap.size + 1) (keepOp c n (a.data.toList.take 480)) (by simp)
    have hO0 : Blk (w1.alloc (.cells #[.string (bs (clientL c)), .string (bs (valueL n (a.data.toList.take 480))), .bool false] 24)) w1.heap.size 24 #[.string (bs (clientL c)), .string (bs (valueL n (a.data.toList.take 480))), .bool false] := Blk.new _ _ _
    have hO1 := (hO0.alloc (.cells #[.string (bs (clientL c)), .string (bs (valueL n (a.data.toList.take 480))), .bool false] 24)).alloc (.cells #[.slice (some ⟨w1.heap.size + 1, 0, none⟩) 1 1, .int .i64 0] 30)
    have hB0 : Below w.heap.size w (((w1.alloc (.cells #[.string (bs (clientL c)), .string (bs (valueL n (a.data.toList.take 480))), .bool false] 24)).alloc (.cells #[.string (bs (clientL c)), .string (bs (valueL n (a.data.toList.take 480))), .bool false] 24)).alloc (.cells #[.slice (some ⟨w1.heap.size + 1, 0, none⟩) 1 1, .int .i64 0] 30)) := ((hb1.alloc z1 _).alloc (by simp; omega) _).alloc (by simp; omega) _
    go_loopw [11, 14] (fun ns i wr => ∃ (k s : Nat) (S : List Op3) (sv : Value), k ≤ l.length ∧ ns = .int .i64 s ∧ i = .int .i64 k ∧ s ≤ 8000 ∧ ShelfOwn wr (w1.heap.size + 1) (w1.heap.size + 1 + 1) sv S 0 ∧ Oth (keepOp c n (a.data.toList.take 480)) S ∧ S.length ≤ k + 1 ∧ Blk wr w1.heap.size 24 #[.string (bs (clientL c)), .string (bs (valueL n (a.data.toList.take 480))), .bool false] ∧ Below w.heap.size w wr) (fun _ i _ => l.length - (intOf i).toNat)
    case atStart => exact ⟨0, 0, [keepOp c n (a.data.toList.take 480)], _, Nat.zero_le _, rfl, rfl, by omega, by simpa [keepOp] using hS0, Oth.one _, by simp, hO1, hB0⟩
    case round =>
      clear hS0 hO0 hO1 hB0
      obtain ⟨k, s, S, sv, hk, rfl, rfl, hs8, hS, hOth, hSl, hO, hbw⟩ := hrel
      have hz := hbw.size
      have hbs := hS.lt
      have hol := hO.lt
      have o0 := hO.cell 0
      have o1 := hO.cell 1
      have o2 := hO.cell 2
      by_cases hlt : k < l.length
      · obtain ⟨ad, rfl, hab, hcell⟩ := (hr.below hbw).2 (by omega)
        have hx1 := List.getElem?_eq_getElem hlt
        obtain ⟨q0, q1, q2⟩ := opsV_at l k _ hx1
        replace q0 := hcell _ _ q0
        replace q1 := hcell _ _ q1
        replace q2 := hcell _ _ q2
        rw [add_pos'] at q1 q2
        obtain ⟨xk, xv⟩ := hx _ (List.getElem_mem hlt)
        replace hx1 := Lib.hid hx1
        generalize l[k] = x at *
        clear hcell
        obtain ⟨SA, scap, rfl, hSh⟩ := hS.shelf
        replace hSh := Lib.hid hSh
        have hdd : Below wr.heap.size wr wr.drew.drew := ((Below.refl _ _).drew).drew
        go_wp2_with fail
        go_region
        have q4 : ((s : Int) + x.key.size + x.val.size) ≤ 281474976719360 := by omega
        by_cases h8 : (8000 : Int) < (s : Int) + x.key.size + x.val.size
        · go_wp2_with fail
          refine (awake_any _).mono ?_
          rintro e w4 ⟨rfl, hb4⟩
          go_wp2_with fail
          go_ret
          exact ⟨rfl, hbw.drew.trans (hb4.mono hz)⟩
        · by_cases hkey : x.key = (bs (clientL c))
          · have hB := beq_same hkey
            replace hkey := Lib.hid hkey
            go_wp2_with fail
            go_region
            go_wp2_with fail
            exact ⟨⟨k + 1, s + x.key.size + x.val.size, S, _, by omega, by go_num, by go_num, by omega, hS.below hdd, hOth, by omega, blk_below hO hdd, hbw.trans (hdd.mono hz)⟩, by simp [intOf]; omega⟩
          · have hB := beq_other hkey
            go_wp2_with fail
            go_region
            go_wp2_with fail
            generalize hwy : wr.drew.drew = wy
            have hdy : Below wr.heap.size wr wy := hwy ▸ hdd
            have hSy := hS.below hdy
            have hOy := blk_below hO hdy
            have hBy := hbw.trans (hdy.mono hz)
            have y0 : wy.cell? (ad.add (k * 3)) = some (.string x.key) := by rw [← hwy]; exact q0
            have y1 : wy.cell? ⟨(ad.add (k * 3)).block, (ad.add (k * 3)).off + (0 + 1), none⟩ = some (.string x.val) := by rw [← hwy]; exact q1
            have y2 : wy.cell? ⟨(ad.add (k * 3)).block, (ad.add (k * 3)).off + (1 + 1), none⟩ = some (.bool x.gone) := by rw [← hwy]; exact q2
            have hby := hSy.lt
            have hwy2 := hBy.size
            have hrow := hS.row_lt
            have hoS : ¬ (w1.heap.size = w1.heap.size + 1 + 1 ∨ (Value.slice SA S.length scap).ownBlock = some w1.heap.size) := by
              rintro (e | e)
              · omega
              · have := (hrow _ e).1; omega
            have hadS : ¬ (ad.block = w1.heap.size + 1 + 1 ∨ (Value.slice SA S.length scap).ownBlock = some ad.block) := by
              rintro (e | e)
              · omega
              · have := (hrow _ e).1; omega
            replace hSy := Lib.hid hSy
            replace hOy := Lib.hid hOy
            replace hBy := Lib.hid hBy
            replace hwy := Lib.hid hwy
            refine wp_region_task (AJ 10 13 wy (w1.heap.size + 1) (w1.heap.size + 1 + 1) (.slice SA S.length scap) S x 0) (oTau wy (w1.heap.size + 1) (w1.heap.size + 1 + 1) (.slice SA S.length scap) S x ad l.length cap k) (usL [u73, u74, u75, u76, u77, u78, u79, u80, u81, u82, u83, u84, u85, undef]) ?m1 ?m2 ?m3 ?m4 (AJ.start hSy.out) ?m5 ?m6
            case m1 => kernel_rfl
            case m2 => kernel_rfl
            case m3 => kernel_rfl
            case m4 => kernel_rfl
            case m5 =>
              refine ⟨?o0, ?o1, ?o2, ?o3, ?o4, ?o5, ?o6, ?o7, ?o8, ?o9, ?o10, ?o11, ?o12, ?o13, trivial⟩
              case o0 =>
                intro d us wx hd hJ hp hu hi
                refine .inl ⟨by kernel_rfl, fun K Q hK => ?_⟩
                simp only [putAll, Act.put, Nat.reduceAdd] at hK ⊢
                go_simp
                refine Eq.mp ?_ (hK (.pointer (some ⟨w1.heap.size + 1 + 1, 0, none⟩)) _ (hJ.other 0 (by decide) (by decide)) rfl (fun _ _ _ h => h))
                kernel_rfl
              case o1 =>
                intro d us wx hd hJ hp hu hi
                refine .inl ⟨by kernel_rfl, fun K Q hK => ?_⟩
                simp only [putAll, Act.put, Nat.reduceAdd] at hK ⊢
                go_simp
                refine Eq.mp ?_ (hK (.pointer (some ⟨w1.heap.size + 1 + 1, 0, none⟩)) _ (hJ.other 1 (by decide) (by decide)) rfl (fun _ _ _ h => h))
                kernel_rfl
              case o2 =>
                intro d us wx hd hJ hp hu hi
                have h1 : us 1 = _ := (hp 1 (by simp [Region.binds])).2
                refine .inl ⟨by kernel_rfl, fun K Q hK => ?_⟩
                simp only [putAll, Act.put, Nat.reduceAdd, h1] at hK ⊢
                go_simp
                refine Eq.mp ?_ (hK (.pointer (some ⟨w1.heap.size + 1 + 1, 0, none⟩)) _ (hJ.other 2 (by decide) (by decide)) rfl (fun _ _ _ h => h))
                kernel_rfl
              case o3 =>
                intro d us wx hd hJ hp hu hi
                have h2 : us 2 = _ := (hp 2 (by simp [Region.binds])).2
                refine .inl ⟨by kernel_rfl, fun K Q hK => ?_⟩
                simp only [putAll, Act.put, Nat.reduceAdd, h2] at hK ⊢
                go_simp
                refine Eq.mp ?_ (hK (.pointer (some ⟨w1.heap.size + 1 + 1, 0, none⟩)) _ (hJ.other 3 (by decide) (by decide)) rfl (fun _ _ _ h => h))
                kernel_rfl
              case o4 =>
                intro d us wx hd hJ hp hu hi
                have h3 : us 3 = _ := (hp 3 (by simp [Region.binds])).2
                have hbx := (hJ.before (hu 13 (by kernel_rfl)).1).trans hSy.out.box
                have c4 : wx.cell? ⟨w1.heap.size + 1 + 1, 0, none⟩ = some (.slice SA S.length scap) := by simp [World.cell?, hbx]
                refine .inl ⟨by kernel_rfl, fun K Q hK => ?_⟩
                simp only [putAll, Act.put, Nat.reduceAdd, h3] at hK ⊢
                go_simp
                refine Eq.mp ?_ (hK (.slice SA S.length scap) _ (hJ.other 4 (by decide) (by decide)) rfl (fun _ _ _ h => h))
                kernel_rfl
              case o5 =>
                intro d us wx hd hJ hp hu hi
                refine .inl ⟨by kernel_rfl, fun K Q hK => ?_⟩
                simp only [putAll, Act.put, Nat.reduceAdd] at hK ⊢
                go_simp
                refine Eq.mp ?_ (hK (.slice (some ad) l.length cap) _ (hJ.other 5 (by decide) (by decide)) rfl (fun _ _ _ h => h))
                kernel_rfl
              case o6 =>
                intro d us wx hd hJ hp hu hi
                refine .inl ⟨by kernel_rfl, fun K Q hK => ?_⟩
                simp only [putAll, Act.put, Nat.reduceAdd] at hK ⊢
                go_simp
                refine Eq.mp ?_ (hK (.int .i64 k) _ (hJ.other 6 (by decide) (by decide)) rfl (fun _ _ _ h => h))
                kernel_rfl
              case o7 =>
                intro d us wx hd hJ hp hu hi
                have h5 : us 5 = _ := (hp 5 (by simp [Region.binds])).2
                have h6 : us 6 = _ := (hp 6 (by simp [Region.binds])).2
                refine .inl ⟨by kernel_rfl, fun K Q hK => ?_⟩
                simp only [putAll, Act.put, Nat.reduceAdd, h5, h6] at hK ⊢
                go_simp
                refine Eq.mp ?_ (hK (.pointer (some (ad.add (k * 3)))) _ (hJ.other 7 (by decide) (by decide)) rfl (fun _ _ _ h => h))
                kernel_rfl
              case o8 =>
                intro d us wx hd hJ hp hu hi
                have h7 : us 7 = _ := (hp 7 (by simp [Region.binds])).2
                have c0 := (hJ.kept.cell (ad.add (k * 3)) (by rw [block_of_add]; omega) (by rw [block_of_add]; exact hadS)).trans y0
                have c1 := (hJ.kept.cell ⟨(ad.add (k * 3)).block, (ad.add (k * 3)).off + (0 + 1), none⟩ (by rw [block_of_add]; omega) (by rw [block_of_add]; exact hadS)).trans y1
                have c2 := (hJ.kept.cell ⟨(ad.add (k * 3)).block, (ad.add (k * 3)).off + (1 + 1), none⟩ (by rw [block_of_add]; omega) (by rw [block_of_add]; exact hadS)).trans y2
                refine .inl ⟨by kernel_rfl, fun K Q hK => ?_⟩
                simp only [putAll, Act.put, Nat.reduceAdd, h7] at hK ⊢
                go_simp
                refine Eq.mp ?_ (hK (.agg #[.string x.key, .string x.val, .bool x.gone]) _ (hJ.other 8 (by decide) (by decide)) rfl (fun _ _ _ h => h))
                kernel_rfl
              case o9 =>
                intro d us wx hd hJ hp hu hi
                have h8 : us 8 = _ := (hp 8 (by simp [Region.binds])).2
                refine .inl ⟨by kernel_rfl, fun K Q hK => ?_⟩
                simp only [putAll, Act.put, Nat.reduceAdd, h8] at hK ⊢
                go_simp
                refine Eq.mp ?_ (hK (.slice (some ⟨wx.heap.size, 0, none⟩) 1 1) (wx.alloc (.cells #[.string x.key, .string x.val, .bool x.gone] 24)) (hJ.alloc 9 (by decide) (by decide) (hu 13 (by kernel_rfl)).1 hby _) (NewRow.new _ _ _ _ hJ.kept.size) (fun i u _ h => oTau_alloc i u h _))
                kernel_rfl
              case o10 =>
                intro d us wx hd hJ hp hu hi
                have h4 : us 4 = _ := (hp 4 (by simp [Region.binds])).2
                obtain ⟨g, h9, hg1, hg2, hg3⟩ := (hp 9 (by simp [Region.binds])).2
                have hbw2 : w1.heap.size + 1 ≤ wx.heap.size := by have := hJ.kept.size; omega
                refine .inl ⟨by kernel_rfl, fun K Q hK => ?_⟩
                simp only [putAll, Act.put, Nat.reduceAdd, h4, h9] at hK ⊢
                refine wp_append_any wx (.tmp 77) (.tmp 82) 28 rfl (w1.heap.size + 1) 24 i0 (.agg #[.string ⟨#[]⟩, .string ⟨#[]⟩, .bool false]) 3 40 Tryd.underlying28 hi0 hz0 hz1 hz2 rfl (by omega) (.slice SA S.length scap) S.length (opsV S) (by kernel_rfl) (hJ.row hd) (g + 1) (some ⟨g, 0, none⟩) 1 1 [.string x.key, .string x.val, .bool x.gone] (by kernel_rfl) hg3 (fun u hu => by simp at hu; rcases hu with rfl | rfl | rfl <;> rfl) (by unfold maxLen; omega) (by omega) hbw2 ?_
                intro v2 w2b hown2 hgr2 hat2
                refine Eq.mp ?_ (hK v2 w2b (hJ.grow (by decide) (hu 13 (by kernel_rfl)).1 hby hSy.out.apart hgr2) (GotRow.of_law (o := x) hown2 (by rcases hat2 with e | e <;> rw [e] <;> first | exact hSy.out.apart | (intro e2; injection e2 with e2; have := hJ.kept.size; omega))) (fun i u h7 h => oTau_grown i u h7 h hgr2 (fun k hk => (hSy.out.row_lt k hk).2)))
                kernel_rfl
              case o11 =>
                intro d us wx hd hJ hp hu hi
                have h0 : us 0 = _ := (hp 0 (by simp [Region.binds])).2
                refine .inl ⟨by kernel_rfl, fun K Q hK => ?_⟩
                simp only [putAll, Act.put, Nat.reduceAdd, h0] at hK ⊢
                go_simp
                refine Eq.mp ?_ (hK (.pointer (some ⟨w1.heap.size + 1 + 1, 0, none⟩)) _ (hJ.other 11 (by decide) (by decide)) rfl (fun _ _ _ h => h))
                kernel_rfl
              case o12 =>
                intro d us wx hd hJ hp hu hi
                have h11 : us 11 = _ := (hp 11 (by simp [Region.binds])).2
                refine .inl ⟨by kernel_rfl, fun K Q hK => ?_⟩
                simp only [putAll, Act.put, Nat.reduceAdd, h11] at hK ⊢
                go_simp
                refine Eq.mp ?_ (hK (.pointer (some ⟨w1.heap.size + 1 + 1, 0, none⟩)) _ (hJ.other 12 (by decide) (by decide)) rfl (fun _ _ _ h => h))
                kernel_rfl
              case o13 =>
                intro d us wx hd hJ hp hu hi
                have h12 : us 12 = _ := (hp 12 (by simp [Region.binds])).2
                have hgot := (hp 10 (by simp [Region.binds])).2
                have hda := (hp 10 (by simp [Region.binds])).1
                have hbx := (hJ.before hd).trans hSy.out.box
                have c4 : wx.cell? ⟨w1.heap.size + 1 + 1, 0, none⟩ = some (.slice SA S.length scap) := by simp [World.cell?, hbx]
                have f4 : wx.frozen? ⟨w1.heap.size + 1 + 1, 0, none⟩ = false := by simp [World.frozen?, hbx]
                obtain ⟨A7, n7, c7, h7⟩ := GotRow.form hgot
                have hgot2 := h7 ▸ hgot
                refine .inl ⟨by kernel_rfl, fun K Q hK => ?_⟩
                simp only [putAll, Act.put, Nat.reduceAdd, h12, h7] at hK ⊢
                go_simp
                refine Eq.mp ?_ (hK (undef) (wx.setCell ⟨w1.heap.size + 1 + 1, 0, none⟩ (.slice A7 n7 c7)) (hJ.store (by decide) hd hda hSy.out hgot2) trivial (fun i u _ h => oTau_set i u h hby 0 _))
                kernel_rfl
            case m6 =>
              intro d us wz hJ hall
              obtain ⟨sv2, hS5⟩ := hJ.after (hall 13 (by simp)).1
              have hk5 := hJ.kept
              have hO5 := hOy.out.kept hk5 hoS
              have hB5 : Below w.heap.size w wz := hBy.out.trans (hk5.below (fun k hk => hk.elim (fun e => by omega) (fun e => by have := (hrow _ e).1; omega)) hwy2)
              simp only [putAll, Act.put, Nat.reduceAdd]
              replace hJ := Lib.hid hJ
              replace hS5 := Lib.hid hS5
              replace hB5 := Lib.hid hB5
              replace hO5 := Lib.hid hO5
              clear hall y0 y1 y2
              go_wp2_with fail
              exact ⟨⟨k + 1, s + x.key.size + x.val.size, S ++ [x], sv2, by omega, by go_num, by go_num, by omega, hS5.out, hOth.snoc (by simpa [keepOp] using hkey), by simp; omega, hO5.out, hB5.out⟩, by simp [intOf]; omega⟩
      · obtain rfl : k = l.length := by omega
        obtain ⟨SA, scap, rfl, hSh⟩ := hS.shelf
        have hgs : (getL S (bs (clientL c))).1.size ≤ 1073741824 := by
          have := getL_oth hOth
          simp only [keepOp] at this
          rw [this]
          simp only []
          omega
        have hgs1 : (getL [keepOp c n (a.data.toList.take 480)] (bs (clientL c))).1.size ≤ 1073741824 := by
          have := getL_oth (Oth.one (keepOp c n (a.data.toList.take 480)))
          simp only [keepOp] at this ⊢
          rw [this]
          simp only []
          omega
        have hgz : (getL [⟨bs (clientL c), bs (valueL n (a.data.toList.take 480)) ++ ⟨#[122]⟩, false⟩] (bs (clientL c))).1.size ≤ 1073741824 := by
          have := getL_oth (Oth.one ⟨bs (clientL c), bs (valueL n (a.data.toList.take 480)) ++ ⟨#[122]⟩, false⟩)
          simp only [] at this
          rw [this]
          simp only [ByteArray.size_append]
          have : (⟨#[122]⟩ : ByteArray).size = 1 := rfl
          omega
        have hq := ask_oth (m := m) hOth (by omega) hal
        have hq1 := ask_oth (m := m) (Oth.one (keepOp c n (a.data.toList.take 480))) (by omega) hal
        have hqz := ask_more c n m (a.data.toList.take 480) (by omega) hal
        rw [← hq1] at hq
        have hasks : ∀ wz, ShelfAt wz (w1.heap.size + 1 + 1) SA S scap 0 → Calls Tryd.prog 9 #[.iface 22 (.pointer (some ⟨w1.heap.size + 1 + 1, 0, none⟩)), .int .u8 c, .int .u64 m] wz fun e w' => e = .returned (.tuple #[.string (askL [keepOp c n (a.data.toList.take 480)] c m).1, .bool (askL [keepOp c n (a.data.toList.take 480)] c m).2.1, .int .i64 (askL [keepOp c n (a.data.toList.take 480)] c m).2.2]) ∧ Below wz.heap.size (wz.setCell ⟨w1.heap.size + 1 + 1, 1, none⟩ (.int .i64 1)) w' := by
          intro wz hz
          have := Ask_any (w1.heap.size + 1 + 1) SA S scap 0 c m wz hz (by omega) (by omega) (by omega) (by omega) (by omega) (by omega) hm (by rw [Int.toNat_natCast]; exact hgs)
          rw [Int.toNat_natCast, Int.toNat_natCast, hq] at this
          exact this
        have hask1 : ∀ (o : Op3) (r1 : ByteArray) (r2 : Bool) (r3 : Int) (b : Nat) (A1 : Option Addr) (wz : World), askL [o] c m = (r1, r2, r3) → (getL [o] (bs (clientL c))).1.size ≤ 1073741824 → ShelfAt wz b A1 [o] 1 0 → Calls Tryd.prog 9 #[.iface 22 (.pointer (some ⟨b, 0, none⟩)), .int .u8 c, .int .u64 m] wz fun e w' => e = .returned (.tuple #[.string r1, .bool r2, .int .i64 r3]) ∧ Below wz.heap.size (wz.setCell ⟨b, 1, none⟩ (.int .i64 1)) w' := by
          intro o r1 r2 r3 b A1 wz hr hg hz
          have := Ask_any b A1 [o] 1 0 c m wz hz (by simp) (by omega) (by omega) (by omega) (by omega) (by omega) hm (by rw [Int.toNat_natCast]; exact hg)
          rw [Int.toNat_natCast, Int.toNat_natCast, hr] at this
          exact this
        have hr3 : (askL [keepOp c n (a.data.toList.take 480)] c m) = if n < m then (⟨#[]⟩, false, 0) else if m < n then (⟨#[]⟩, false, 27) else (bs (a.data.toList.take 480), true, 0) := hq1
        generalize hres : askL [keepOp c n (a.data.toList.take 480)] c m = r at *
        obtain ⟨r1, r2, r3⟩ := r
        replace hasks := Lib.hid hasks
        replace hask1 := Lib.hid hask1
        replace hq := Lib.hid hq
        replace hq1 := Lib.hid hq1
        replace hqz := Lib.hid hqz
        replace hres := Lib.hid hres
        replace hgs := Lib.hid hgs
        replace hgs1 := Lib.hid hgs1
        replace hgz := Lib.hid hgz
        replace hr3 := Lib.hid hr3
        go_wp2_with fail
        refine (hasks.out _ hSh).mono ?_
        rintro e w2 ⟨rfl, hb2⟩
        have hk2 := KeptBut.of_ask hb2
        have hO2 := hO.kept hk2 (by omega)
        have hB2 := hbw.trans (hk2.below (B := w.heap.size) (fun k hk => by omega) hz)
        have hz2 := hB2.size
        have p0 := hO2.cell 0
        have p1 := hO2.cell 1
        have p2 := hO2.cell 2
        have hol2 := hO2.lt
        have hS1 := ShelfAt.one w2 (keepOp c n (a.data.toList.take 480)) 24
        replace hS1 := Lib.hid hS1
        go_wp2_with fail
        refine (hask1.out _ _ _ _ _ _ _ hres.out hgs1.out hS1.out).mono ?_
        rintro e w3 ⟨rfl, hb3⟩
        have hk3 := KeptBut.of_ask hb3
        have hO3 := hO2.kept (w' := w3) ⟨hk3.os.trans rfl, hk3.tape.trans rfl, hk3.output.trans rfl, by have := hk3.size; simp at this; omega, fun k hk hs => (hk3.block k (by simp; omega) hs).trans (by rw [Below.heap_alloc _ _ _ (by simp; omega), Below.heap_alloc _ _ _ hk])⟩ (S := fun k => k = w2.heap.size + 1) (by omega)
        have hB3 : Below w.heap.size w w3 := hB2.trans ((((Below.refl w.heap.size w2).alloc hz2 _).alloc (by simp; omega) _).trans (hk3.below (fun k hk => by have hk' : k = _ := hk; omega) (by simp; omega)))
        have hz3 := hB3.size
        have p30 := hO3.cell 0
        have p31 := hO3.cell 1
        have p32 := hO3.cell 2
        have hol3 := hO3.lt
        have hSz := ShelfAt.one w3 ⟨bs (clientL c), bs (valueL n (a.data.toList.take 480)) ++ ⟨#[122]⟩, false⟩ 24
        have qz : (bs (valueL n (a.data.toList.take 480))).size + 1 ≤ 9223372036854775807 := by omega
        replace hSz := Lib.hid hSz
        have hcase : (n < m ∧ r1 = ⟨#[]⟩ ∧ r2 = false ∧ r3 = 0) ∨ (m < n ∧ r1 = ⟨#[]⟩ ∧ r2 = false ∧ r3 = 27) ∨ (n = m ∧ r2 = true ∧ r3 = 0) := by
          have h := hr3.out
          by_cases h1 : n < m
          · rw [if_pos h1] at h
            injection h with e1 e2
            injection e2 with e2 e3
            exact .inl ⟨h1, e1, e2, e3⟩
          · rw [if_neg h1] at h
            by_cases h2 : m < n
            · rw [if_pos h2] at h
              injection h with e1 e2
              injection e2 with e2 e3
              exact .inr (.inl ⟨h2, e1, e2, e3⟩)
            · rw [if_neg h2] at h
              injection h with e1 e2
              injection e2 with e2 e3
              exact .inr (.inr ⟨by omega, e2, e3⟩)
        clear hk2 hk3 hb2 hb3 p0 p1 p2 hO2
        rcases hcase with ⟨c1, rfl, rfl, rfl⟩ | ⟨c1, rfl, rfl, rfl⟩ | ⟨c1, rfl, rfl⟩
        · have d1 : ((m : Int) == (n : Int)) = false := by simp; omega
          have d2 : ¬ (m : Int) = (n : Int) := by omega
          have d3 : ¬ (m : Int) < (n : Int) := by omega
          go_wp2_with fail
          refine (hask1.out _ _ _ _ _ _ _ hqz.out hgz.out hSz.out).mono ?_
          rintro e w4 ⟨rfl, hb4⟩
          have hB4 : Below w.heap.size w w4 := hB3.trans ((((Below.refl w.heap.size w3).alloc hz3 _).alloc (by simp; omega) _).trans ((KeptBut.of_ask hb4).below (fun k hk => by have hk' : k = _ := hk; omega) (by simp; omega)))
          go_wp2_with fail
          refine (awake_any _).mono ?_
          rintro e w5 ⟨rfl, hb5⟩
          go_wp2_with fail
          go_ret
          exact ⟨rfl, hB4.trans (hb5.mono hB4.size)⟩
        · have d1 : ((m : Int) == (n : Int)) = false := by simp; omega
          have d2 : ¬ (m : Int) = (n : Int) := by omega
          have d3 : (m : Int) < (n : Int) := by omega
          go_wp2_with fail
          refine (hask1.out _ _ _ _ _ _ _ hqz.out hgz.out hSz.out).mono ?_
          rintro e w4 ⟨rfl, hb4⟩
          have hB4 : Below w.heap.size w w4 := hB3.trans ((((Below.refl w.heap.size w3).alloc hz3 _).alloc (by simp; omega) _).trans ((KeptBut.of_ask hb4).below (fun k hk => by have hk' : k = _ := hk; omega) (by simp; omega)))
          go_wp2_with fail
          refine (awake_any _).mono ?_
          rintro e w5 ⟨rfl, hb5⟩
          go_wp2_with fail
          go_ret
          exact ⟨rfl, hB4.trans (hb5.mono hB4.size)⟩
        · subst c1
          go_wp2_with fail
          refine (hask1.out _ _ _ _ _ _ _ hqz.out hgz.out hSz.out).mono ?_
          rintro e w4 ⟨rfl, hb4⟩
          have hB4 : Below w.heap.size w w4 := hB3.trans ((((Below.refl w.heap.size w3).alloc hz3 _).alloc (by simp; omega) _).trans ((KeptBut.of_ask hb4).below (fun k hk => by have hk' : k = _ := hk; omega) (by simp; omega)))
          go_wp2_with fail
          refine (awake_any _).mono ?_
          rintro e w5 ⟨rfl, hb5⟩
          go_wp2_with fail
          go_ret
          exact ⟨rfl, hB4.trans (hb5.mono hB4.size)⟩
  · have h2000' : ¬ (2000 : Int) < a.size := by omega
    have hkeep : ∀ wz, Calls Tryd.prog 7 #[.int .u8 c, .int .u64 n, .string a] wz fun e w' => e = .returned (.agg #[.string (bs (clientL c)), .string (bs (valueL n (a.data.toList.take 480))), .bool false]) ∧ Below wz.heap.size wz w' := by
      intro wz
      have := Keep_any c n a wz (by omega) (by omega) (by omega) hn ha
      rw [Int.toNat_natCast, Int.toNat_natCast] at this
      exact this
    replace hkeep := Lib.hid hkeep
    go_enter Tryd.func6, Tryd.ntmps6
    go_wp2_with fail
    refine (hkeep.out _).mono ?_
    rintro e w1 ⟨rfl, hb1⟩
    have z1 := hb1.size
    go_wp2_with fail
    have hS0 := ShelfOwn.lit (w1.alloc (.cells #[.string (bs (clientL c)), .string (bs (valueL n (a.data.toList.take 480))), .bool false] 24)) (w1.heap.size + 1) (keepOp c n (a.data.toList.take 480)) (by simp)
    have hO0 : Blk (w1.alloc (.cells #[.string (bs (clientL c)), .string (bs (valueL n (a.data.toList.take 480))), .bool false] 24)) w1.heap.size 24 #[.string (bs (clientL c)), .string (bs (valueL n (a.data.toList.take 480))), .bool false] := Blk.new _ _ _
    have hO1 := (hO0.alloc (.cells #[.string (bs (clientL c)), .string (bs (valueL n (a.data.toList.take 480))), .bool false] 24)).alloc (.cells #[.slice (some ⟨w1.heap.size + 1, 0, none⟩) 1 1, .int .i64 0] 30)
    have hB0 : Below w.heap.size w (((w1.alloc (.cells #[.string (bs (clientL c)), .string (bs (valueL n (a.data.toList.take 480))), .bool false] 24)).alloc (.cells #[.string (bs (clientL c)), .string (bs (valueL n (a.data.toList.take 480))), .bool false] 24)).alloc (.cells #[.slice (some ⟨w1.heap.size + 1, 0, none⟩) 1 1, .int .i64 0] 30)) := ((hb1.alloc z1 _).alloc (by simp; omega) _).alloc (by simp; omega) _
    go_loopw [11, 14] (fun ns i wr => ∃ (k s : Nat) (S : List Op3) (sv : Value), k ≤ l.length ∧ ns = .int .i64 s ∧ i = .int .i64 k ∧ s ≤ 8000 ∧ ShelfOwn wr (w1.heap.size + 1) (w1.heap.size + 1 + 1) sv S 0 ∧ Oth (keepOp c n (a.data.toList.take 480)) S ∧ S.length ≤ k + 1 ∧ Blk wr w1.heap.size 24 #[.string (bs (clientL c)), .string (bs (valueL n (a.data.toList.take 480))), .bool false] ∧ Below w.heap.size w wr) (fun _ i _ => l.length - (intOf i).toNat)
    case atStart => exact ⟨0, 0, [keepOp c n (a.data.toList.take 480)], _, Nat.zero_le _, rfl, rfl, by omega, by simpa [keepOp] using hS0, Oth.one _, by simp, hO1, hB0⟩
    case round =>
      clear hS0 hO0 hO1 hB0
      obtain ⟨k, s, S, sv, hk, rfl, rfl, hs8, hS, hOth, hSl, hO, hbw⟩ := hrel
      have hz := hbw.size
      have hbs := hS.lt
      have hol := hO.lt
      have o0 := hO.cell 0
      have o1 := hO.cell 1
      have o2 := hO.cell 2
      by_cases hlt : k < l.length
      · obtain ⟨ad, rfl, hab, hcell⟩ := (hr.below hbw).2 (by omega)
        have hx1 := List.getElem?_eq_getElem hlt
        obtain ⟨q0, q1, q2⟩ := opsV_at l k _ hx1
        replace q0 := hcell _ _ q0
        replace q1 := hcell _ _ q1
        replace q2 := hcell _ _ q2
        rw [add_pos'] at q1 q2
        obtain ⟨xk, xv⟩ := hx _ (List.getElem_mem hlt)
        replace hx1 := Lib.hid hx1
        generalize l[k] = x at *
        clear hcell
        obtain ⟨SA, scap, rfl, hSh⟩ := hS.shelf
        replace hSh := Lib.hid hSh
        have hdd : Below wr.heap.size wr wr.drew.drew := ((Below.refl _ _).drew).drew
        go_wp2_with fail
        go_region
        have q4 : ((s : Int) + x.key.size + x.val.size) ≤ 281474976719360 := by omega
        by_cases h8 : (8000 : Int) < (s : Int) + x.key.size + x.val.size
        · go_wp2_with fail
          refine (awake_any _).mono ?_
          rintro e w4 ⟨rfl, hb4⟩
          go_wp2_with fail
          go_ret
          exact ⟨rfl, hbw.drew.trans (hb4.mono hz)⟩
        · by_cases hkey : x.key = (bs (clientL c))
          · have hB := beq_same hkey
            replace hkey := Lib.hid hkey
            go_wp2_with fail
            go_region
            go_wp2_with fail
            exact ⟨⟨k + 1, s + x.key.size + x.val.size, S, _, by omega, by go_num, by go_num, by omega, hS.below hdd, hOth, by omega, blk_below hO hdd, hbw.trans (hdd.mono hz)⟩, by simp [intOf]; omega⟩
          · have hB := beq_other hkey
            go_wp2_with fail
            go_region
            go_wp2_with fail
            generalize hwy : wr.drew.drew = wy
            have hdy : Below wr.heap.size wr wy := hwy ▸ hdd
            have hSy := hS.below hdy
            have hOy := blk_below hO hdy
            have hBy := hbw.trans (hdy.mono hz)
            have y0 : wy.cell? (ad.add (k * 3)) = some (.string x.key) := by rw [← hwy]; exact q0
            have y1 : wy.cell? ⟨(ad.add (k * 3)).block, (ad.add (k * 3)).off + (0 + 1), none⟩ = some (.string x.val) := by rw [← hwy]; exact q1
            have y2 : wy.cell? ⟨(ad.add (k * 3)).block, (ad.add (k * 3)).off + (1 + 1), none⟩ = some (.bool x.gone) := by rw [← hwy]; exact q2
            have hby := hSy.lt
            have hwy2 := hBy.size
            have hrow := hS.row_lt
            have hoS : ¬ (w1.heap.size = w1.heap.size + 1 + 1 ∨ (Value.slice SA S.length scap).ownBlock = some w1.heap.size) := by
              rintro (e | e)
              · omega
              · have := (hrow _ e).1; omega
            have hadS : ¬ (ad.block = w1.heap.size + 1 + 1 ∨ (Value.slice SA S.length scap).ownBlock = some ad.block) := by
              rintro (e | e)
              · omega
              · have := (hrow _ e).1; omega
            replace hSy := Lib.hid hSy
            replace hOy := Lib.hid hOy
            replace hBy := Lib.hid hBy
            replace hwy := Lib.hid hwy
            refine wp_region_task (AJ 10 13 wy (w1.heap.size + 1) (w1.heap.size + 1 + 1) (.slice SA S.length scap) S x 0) (oTau wy (w1.heap.size + 1) (w1.heap.size + 1 + 1) (.slice SA S.length scap) S x ad l.length cap k) (usL [u73, u74, u75, u76, u77, u78, u79, u80, u81, u82, u83, u84, u85, undef]) ?m1 ?m2 ?m3 ?m4 (AJ.start hSy.out) ?m5 ?m6
            case m1 => kernel_rfl
            case m2 => kernel_rfl
            case m3 => kernel_rfl
            case m4 => kernel_rfl
            case m5 =>
              refine ⟨?o0, ?o1, ?o2, ?o3, ?o4, ?o5, ?o6, ?o7, ?o8, ?o9, ?o10, ?o11, ?o12, ?o13, trivial⟩
              case o0 =>
                intro d us wx hd hJ hp hu hi
                refine .inl ⟨by kernel_rfl, fun K Q hK => ?_⟩
                simp only [putAll, Act.put, Nat.reduceAdd] at hK ⊢
                go_simp
                refine Eq.mp ?_ (hK (.pointer (some ⟨w1.heap.size + 1 + 1, 0, none⟩)) _ (hJ.other 0 (by decide) (by decide)) rfl (fun _ _ _ h => h))
                kernel_rfl
              case o1 =>
                intro d us wx hd hJ hp hu hi
                refine .inl ⟨by kernel_rfl, fun K Q hK => ?_⟩
                simp only [putAll, Act.put, Nat.reduceAdd] at hK ⊢
                go_simp
                refine Eq.mp ?_ (hK (.pointer (some ⟨w1.heap.size + 1 + 1, 0, none⟩)) _ (hJ.other 1 (by decide) (by decide)) rfl (fun _ _ _ h => h))
                kernel_rfl
              case o2 =>
                intro d us wx hd hJ hp hu hi
                have h1 : us 1 = _ := (hp 1 (by simp [Region.binds])).2
                refine .inl ⟨by kernel_rfl, fun K Q hK => ?_⟩
                simp only [putAll, Act.put, Nat.reduceAdd, h1] at hK ⊢
                go_simp
                refine Eq.mp ?_ (hK (.pointer (some ⟨w1.heap.size + 1 + 1, 0, none⟩)) _ (hJ.other 2 (by decide) (by decide)) rfl (fun _ _ _ h => h))
                kernel_rfl
              case o3 =>
                intro d us wx hd hJ hp hu hi
                have h2 : us 2 = _ := (hp 2 (by simp [Region.binds])).2
                refine .inl ⟨by kernel_rfl, fun K Q hK => ?_⟩
                simp only [putAll, Act.put, Nat.reduceAdd, h2] at hK ⊢
                go_simp
                refine Eq.mp ?_ (hK (.pointer (some ⟨w1.heap.size + 1 + 1, 0, none⟩)) _ (hJ.other 3 (by decide) (by decide)) rfl (fun _ _ _ h => h))
                kernel_rfl
              case o4 =>
                intro d us wx hd hJ hp hu hi
                have h3 : us 3 = _ := (hp 3 (by simp [Region.binds])).2
                have hbx := (hJ.before (hu 13 (by kernel_rfl)).1).trans hSy.out.box
                have c4 : wx.cell? ⟨w1.heap.size + 1 + 1, 0, none⟩ = some (.slice SA S.length scap) := by simp [World.cell?, hbx]
                refine .inl ⟨by kernel_rfl, fun K Q hK => ?_⟩
                simp only [putAll, Act.put, Nat.reduceAdd, h3] at hK ⊢
                go_simp
                refine Eq.mp ?_ (hK (.slice SA S.length scap) _ (hJ.other 4 (by decide) (by decide)) rfl (fun _ _ _ h => h))
                kernel_rfl
              case o5 =>
                intro d us wx hd hJ hp hu hi
                refine .inl ⟨by kernel_rfl, fun K Q hK => ?_⟩
                simp only [putAll, Act.put, Nat.reduceAdd] at hK ⊢
                go_simp
                refine Eq.mp ?_ (hK (.slice (some ad) l.length cap) _ (hJ.other 5 (by decide) (by decide)) rfl (fun _ _ _ h => h))
                kernel_rfl
              case o6 =>
                intro d us wx hd hJ hp hu hi
                refine .inl ⟨by kernel_rfl, fun K Q hK => ?_⟩
                simp only [putAll, Act.put, Nat.reduceAdd] at hK ⊢
                go_simp
                refine Eq.mp ?_ (hK (.int .i64 k) _ (hJ.other 6 (by decide) (by decide)) rfl (fun _ _ _ h => h))
                kernel_rfl
              case o7 =>
                intro d us wx hd hJ hp hu hi
                have h5 : us 5 = _ := (hp 5 (by simp [Region.binds])).2
                have h6 : us 6 = _ := (hp 6 (by simp [Region.binds])).2
                refine .inl ⟨by kernel_rfl, fun K Q hK => ?_⟩
                simp only [putAll, Act.put, Nat.reduceAdd, h5, h6] at hK ⊢
                go_simp
                refine Eq.mp ?_ (hK (.pointer (some (ad.add (k * 3)))) _ (hJ.other 7 (by decide) (by decide)) rfl (fun _ _ _ h => h))
                kernel_rfl
              case o8 =>
                intro d us wx hd hJ hp hu hi
                have h7 : us 7 = _ := (hp 7 (by simp [Region.binds])).2
                have c0 := (hJ.kept.cell (ad.add (k * 3)) (by rw [block_of_add]; omega) (by rw [block_of_add]; exact hadS)).trans y0
                have c1 := (hJ.kept.cell ⟨(ad.add (k * 3)).block, (ad.add (k * 3)).off + (0 + 1), none⟩ (by rw [block_of_add]; omega) (by rw [block_of_add]; exact hadS)).trans y1
                have c2 := (hJ.kept.cell ⟨(ad.add (k * 3)).block, (ad.add (k * 3)).off + (1 + 1), none⟩ (by rw [block_of_add]; omega) (by rw [block_of_add]; exact hadS)).trans y2
                refine .inl ⟨by kernel_rfl, fun K Q hK => ?_⟩
                simp only [putAll, Act.put, Nat.reduceAdd, h7] at hK ⊢
                go_simp
                refine Eq.mp ?_ (hK (.agg #[.string x.key, .string x.val, .bool x.gone]) _ (hJ.other 8 (by decide) (by decide)) rfl (fun _ _ _ h => h))
                kernel_rfl
              case o9 =>
                intro d us wx hd hJ hp hu hi
                have h8 : us 8 = _ := (hp 8 (by simp [Region.binds])).2
                refine .inl ⟨by kernel_rfl, fun K Q hK => ?_⟩
                simp only [putAll, Act.put, Nat.reduceAdd, h8] at hK ⊢
                go_simp
                refine Eq.mp ?_ (hK (.slice (some ⟨wx.heap.size, 0, none⟩) 1 1) (wx.alloc (.cells #[.string x.key, .string x.val, .bool x.gone] 24)) (hJ.alloc 9 (by decide) (by decide) (hu 13 (by kernel_rfl)).1 hby _) (NewRow.new _ _ _ _ hJ.kept.size) (fun i u _ h => oTau_alloc i u h _))
                kernel_rfl
              case o10 =>
                intro d us wx hd hJ hp hu hi
                have h4 : us 4 = _ := (hp 4 (by simp [Region.binds])).2
                obtain ⟨g, h9, hg1, hg2, hg3⟩ := (hp 9 (by simp [Region.binds])).2
                have hbw2 : w1.heap.size + 1 ≤ wx.heap.size := by have := hJ.kept.size; omega
                refine .inl ⟨by kernel_rfl, fun K Q hK => ?_⟩
                simp only [putAll, Act.put, Nat.reduceAdd, h4, h9] at hK ⊢
                refine wp_append_any wx (.tmp 77) (.tmp 82) 28 rfl (w1.heap.size + 1) 24 i0 (.agg #[.string ⟨#[]⟩, .string ⟨#[]⟩, .bool false]) 3 40 Tryd.underlying28 hi0 hz0 hz1 hz2 rfl (by omega) (.slice SA S.length scap) S.length (opsV S) (by kernel_rfl) (hJ.row hd) (g + 1) (some ⟨g, 0, none⟩) 1 1 [.string x.key, .string x.val, .bool x.gone] (by kernel_rfl) hg3 (fun u hu => by simp at hu; rcases hu with rfl | rfl | rfl <;> rfl) (by unfold maxLen; omega) (by omega) hbw2 ?_
                intro v2 w2b hown2 hgr2 hat2
                refine Eq.mp ?_ (hK v2 w2b (hJ.grow (by decide) (hu 13 (by kernel_rfl)).1 hby hSy.out.apart hgr2) (GotRow.of_law (o := x) hown2 (by rcases hat2 with e | e <;> rw [e] <;> first | exact hSy.out.apart | (intro e2; injection e2 with e2; have := hJ.kept.size; omega))) (fun i u h7 h => oTau_grown i u h7 h hgr2 (fun k hk => (hSy.out.row_lt k hk).2)))
                kernel_rfl
              case o11 =>
                intro d us wx hd hJ hp hu hi
                have h0 : us 0 = _ := (hp 0 (by simp [Region.binds])).2
                refine .inl ⟨by kernel_rfl, fun K Q hK => ?_⟩
                simp only [putAll, Act.put, Nat.reduceAdd, h0] at hK ⊢
                go_simp
                refine Eq.mp ?_ (hK (.pointer (some ⟨w1.heap.size + 1 + 1, 0, none⟩)) _ (hJ.other 11 (by decide) (by decide)) rfl (fun _ _ _ h => h))
                kernel_rfl
              case o12 =>
                intro d us wx hd hJ hp hu hi
                have h11 : us 11 = _ := (hp 11 (by simp [Region.binds])).2
                refine .inl ⟨by kernel_rfl, fun K Q hK => ?_⟩
                simp only [putAll, Act.put, Nat.reduceAdd, h11] at hK ⊢
                go_simp
                refine Eq.mp ?_ (hK (.pointer (some ⟨w1.heap.size + 1 + 1, 0, none⟩)) _ (hJ.other 12 (by decide) (by decide)) rfl (fun _ _ _ h => h))
                kernel_rfl
              case o13 =>
                intro d us wx hd hJ hp hu hi
                have h12 : us 12 = _ := (hp 12 (by simp [Region.binds])).2
                have hgot := (hp 10 (by simp [Region.binds])).2
                have hda := (hp 10 (by simp [Region.binds])).1
                have hbx := (hJ.before hd).trans hSy.out.box
                have c4 : wx.cell? ⟨w1.heap.size + 1 + 1, 0, none⟩ = some (.slice SA S.length scap) := by simp [World.cell?, hbx]
                have f4 : wx.frozen? ⟨w1.heap.size + 1 + 1, 0, none⟩ = false := by simp [World.frozen?, hbx]
                obtain ⟨A7, n7, c7, h7⟩ := GotRow.form hgot
                have hgot2 := h7 ▸ hgot
                refine .inl ⟨by kernel_rfl, fun K Q hK => ?_⟩
                simp only [putAll, Act.put, Nat.reduceAdd, h12, h7] at hK ⊢
                go_simp
                refine Eq.mp ?_ (hK (undef) (wx.setCell ⟨w1.heap.size + 1 + 1, 0, none⟩ (.slice A7 n7 c7)) (hJ.store (by decide) hd hda hSy.out hgot2) trivial (fun i u _ h => oTau_set i u h hby 0 _))
                kernel_rfl
            case m6 =>
              intro d us wz hJ hall
              obtain ⟨sv2, hS5⟩ := hJ.after (hall 13 (by simp)).1
              have hk5 := hJ.kept
              have hO5 := hOy.out.kept hk5 hoS
              have hB5 : Below w.heap.size w wz := hBy.out.trans (hk5.below (fun k hk => hk.elim (fun e => by omega) (fun e => by have := (hrow _ e).1; omega)) hwy2)
              simp only [putAll, Act.put, Nat.reduceAdd]
              replace hJ := Lib.hid hJ
              replace hS5 := Lib.hid hS5
              replace hB5 := Lib.hid hB5
              replace hO5 := Lib.hid hO5
              clear hall y0 y1 y2
              go_wp2_with fail
              exact ⟨⟨k + 1, s + x.key.size + x.val.size, S ++ [x], sv2, by omega, by go_num, by go_num, by omega, hS5.out, hOth.snoc (by simpa [keepOp] using hkey), by simp; omega, hO5.out, hB5.out⟩, by simp [intOf]; omega⟩
      · obtain rfl : k = l.length := by omega
        obtain ⟨SA, scap, rfl, hSh⟩ := hS.shelf
        have hgs : (getL S (bs (clientL c))).1.size ≤ 1073741824 := by
          have := getL_oth hOth
          simp only [keepOp] at this
          rw [this]
          simp only []
          omega
        have hgs1 : (getL [keepOp c n (a.data.toList.take 480)] (bs (clientL c))).1.size ≤ 1073741824 := by
          have := getL_oth (Oth.one (keepOp c n (a.data.toList.take 480)))
          simp only [keepOp] at this ⊢
          rw [this]
          simp only []
          omega
        have hgz : (getL [⟨bs (clientL c), bs (valueL n (a.data.toList.take 480)) ++ ⟨#[122]⟩, false⟩] (bs (clientL c))).1.size ≤ 1073741824 := by
          have := getL_oth (Oth.one ⟨bs (clientL c), bs (valueL n (a.data.toList.take 480)) ++ ⟨#[122]⟩, false⟩)
          simp only [] at this
          rw [this]
          simp only [ByteArray.size_append]
          have : (⟨#[122]⟩ : ByteArray).size = 1 := rfl
          omega
        have hq := ask_oth (m := m) hOth (by omega) hal
        have hq1 := ask_oth (m := m) (Oth.one (keepOp c n (a.data.toList.take 480))) (by omega) hal
        have hqz := ask_more c n m (a.data.toList.take 480) (by omega) hal
        rw [← hq1] at hq
        have hasks : ∀ wz, ShelfAt wz (w1.heap.size + 1 + 1) SA S scap 0 → Calls Tryd.prog 9 #[.iface 22 (.pointer (some ⟨w1.heap.size + 1 + 1, 0, none⟩)), .int .u8 c, .int .u64 m] wz fun e w' => e = .returned (.tuple #[.string (askL [keepOp c n (a.data.toList.take 480)] c m).1, .bool (askL [keepOp c n (a.data.toList.take 480)] c m).2.1, .int .i64 (askL [keepOp c n (a.data.toList.take 480)] c m).2.2]) ∧ Below wz.heap.size (wz.setCell ⟨w1.heap.size + 1 + 1, 1, none⟩ (.int .i64 1)) w' := by
          intro wz hz
          have := Ask_any (w1.heap.size + 1 + 1) SA S scap 0 c m wz hz (by omega) (by omega) (by omega) (by omega) (by omega) (by omega) hm (by rw [Int.toNat_natCast]; exact hgs)
          rw [Int.toNat_natCast, Int.toNat_natCast, hq] at this
          exact this
        have hask1 : ∀ (o : Op3) (r1 : ByteArray) (r2 : Bool) (r3 : Int) (b : Nat) (A1 : Option Addr) (wz : World), askL [o] c m = (r1, r2, r3) → (getL [o] (bs (clientL c))).1.size ≤ 1073741824 → ShelfAt wz b A1 [o] 1 0 → Calls Tryd.prog 9 #[.iface 22 (.pointer (some ⟨b, 0, none⟩)), .int .u8 c, .int .u64 m] wz fun e w' => e = .returned (.tuple #[.string r1, .bool r2, .int .i64 r3]) ∧ Below wz.heap.size (wz.setCell ⟨b, 1, none⟩ (.int .i64 1)) w' := by
          intro o r1 r2 r3 b A1 wz hr hg hz
          have := Ask_any b A1 [o] 1 0 c m wz hz (by simp) (by omega) (by omega) (by omega) (by omega) (by omega) hm (by rw [Int.toNat_natCast]; exact hg)
          rw [Int.toNat_natCast, Int.toNat_natCast, hr] at this
          exact this
        have hr3 : (askL [keepOp c n (a.data.toList.take 480)] c m) = if n < m then (⟨#[]⟩, false, 0) else if m < n then (⟨#[]⟩, false, 27) else (bs (a.data.toList.take 480), true, 0) := hq1
        generalize hres : askL [keepOp c n (a.data.toList.take 480)] c m = r at *
        obtain ⟨r1, r2, r3⟩ := r
        replace hasks := Lib.hid hasks
        replace hask1 := Lib.hid hask1
        replace hq := Lib.hid hq
        replace hq1 := Lib.hid hq1
        replace hqz := Lib.hid hqz
        replace hres := Lib.hid hres
        replace hgs := Lib.hid hgs
        replace hgs1 := Lib.hid hgs1
        replace hgz := Lib.hid hgz
        replace hr3 := Lib.hid hr3
        go_wp2_with fail
        refine (hasks.out _ hSh).mono ?_
        rintro e w2 ⟨rfl, hb2⟩
        have hk2 := KeptBut.of_ask hb2
        have hO2 := hO.kept hk2 (by omega)
        have hB2 := hbw.trans (hk2.below (B := w.heap.size) (fun k hk => by omega) hz)
        have hz2 := hB2.size
        have p0 := hO2.cell 0
        have p1 := hO2.cell 1
        have p2 := hO2.cell 2
        have hol2 := hO2.lt
        have hS1 := ShelfAt.one w2 (keepOp c n (a.data.toList.take 480)) 24
        replace hS1 := Lib.hid hS1
        go_wp2_with fail
        refine (hask1.out _ _ _ _ _ _ _ hres.out hgs1.out hS1.out).mono ?_
        rintro e w3 ⟨rfl, hb3⟩
        have hk3 := KeptBut.of_ask hb3
        have hO3 := hO2.kept (w' := w3) ⟨hk3.os.trans rfl, hk3.tape.trans rfl, hk3.output.trans rfl, by have := hk3.size; simp at this; omega, fun k hk hs => (hk3.block k (by simp; omega) hs).trans (by rw [Below.heap_alloc _ _ _ (by simp; omega), Below.heap_alloc _ _ _ hk])⟩ (S := fun k => k = w2.heap.size + 1) (by omega)
        have hB3 : Below w.heap.size w w3 := hB2.trans ((((Below.refl w.heap.size w2).alloc hz2 _).alloc (by simp; omega) _).trans (hk3.below (fun k hk => by have hk' : k = _ := hk; omega) (by simp; omega)))
        have hz3 := hB3.size
        have p30 := hO3.cell 0
        have p31 := hO3.cell 1
        have p32 := hO3.cell 2
        have hol3 := hO3.lt
        have hSz := ShelfAt.one w3 ⟨bs (clientL c), bs (valueL n (a.data.toList.take 480)) ++ ⟨#[122]⟩, false⟩ 24
        have qz : (bs (valueL n (a.data.toList.take 480))).size + 1 ≤ 9223372036854775807 := by omega
        replace hSz := Lib.hid hSz
        have hcase : (n < m ∧ r1 = ⟨#[]⟩ ∧ r2 = false ∧ r3 = 0) ∨ (m < n ∧ r1 = ⟨#[]⟩ ∧ r2 = false ∧ r3 = 27) ∨ (n = m ∧ r2 = true ∧ r3 = 0) := by
          have h := hr3.out
          by_cases h1 : n < m
          · rw [if_pos h1] at h
            injection h with e1 e2
            injection e2 with e2 e3
            exact .inl ⟨h1, e1, e2, e3⟩
          · rw [if_neg h1] at h
            by_cases h2 : m < n
            · rw [if_pos h2] at h
              injection h with e1 e2
              injection e2 with e2 e3
              exact .inr (.inl ⟨h2, e1, e2, e3⟩)
            · rw [if_neg h2] at h
              injection h with e1 e2
              injection e2 with e2 e3
              exact .inr (.inr ⟨by omega, e2, e3⟩)
        clear hk2 hk3 hb2 hb3 p0 p1 p2 hO2
        rcases hcase with ⟨c1, rfl, rfl, rfl⟩ | ⟨c1, rfl, rfl, rfl⟩ | ⟨c1, rfl, rfl⟩
        · have d1 : ((m : Int) == (n : Int)) = false := by simp; omega
          have d2 : ¬ (m : Int) = (n : Int) := by omega
          have d3 : ¬ (m : Int) < (n : Int) := by omega
          go_wp2_with fail
          refine (hask1.out _ _ _ _ _ _ _ hqz.out hgz.out hSz.out).mono ?_
          rintro e w4 ⟨rfl, hb4⟩
          have hB4 : Below w.heap.size w w4 := hB3.trans ((((Below.refl w.heap.size w3).alloc hz3 _).alloc (by simp; omega) _).trans ((KeptBut.of_ask hb4).below (fun k hk => by have hk' : k = _ := hk; omega) (by simp; omega)))
          go_wp2_with fail
          refine (awake_any _).mono ?_
          rintro e w5 ⟨rfl, hb5⟩
          go_wp2_with fail
          go_ret
          exact ⟨rfl, hB4.trans (hb5.mono hB4.size)⟩
        · have d1 : ((m : Int) == (n : Int)) = false := by simp; omega
          have d2 : ¬ (m : Int) = (n : Int) := by omega
          have d3 : (m : Int) < (n : Int) := by omega
          go_wp2_with fail
          refine (hask1.out _ _ _ _ _ _ _ hqz.out hgz.out hSz.out).mono ?_
          rintro e w4 ⟨rfl, hb4⟩
          have hB4 : Below w.heap.size w w4 := hB3.trans ((((Below.refl w.heap.size w3).alloc hz3 _).alloc (by simp; omega) _).trans ((KeptBut.of_ask hb4).below (fun k hk => by have hk' : k = _ := hk; omega) (by simp; omega)))
          go_wp2_with fail
          refine (awake_any _).mono ?_
          rintro e w5 ⟨rfl, hb5⟩
          go_wp2_with fail
          go_ret
          exact ⟨rfl, hB4.trans (hb5.mono hB4.size)⟩
        · subst c1
          go_wp2_with fail
          refine (hask1.out _ _ _ _ _ _ _ hqz.out hgz.out hSz.out).mono ?_
          rintro e w4 ⟨rfl, hb4⟩
          have hB4 : Below w.heap.size w w4 := hB3.trans ((((Below.refl w.heap.size w3).alloc hz3 _).alloc (by simp; omega) _).trans ((KeptBut.of_ask hb4).below (fun k hk => by have hk' : k = _ := hk; omega) (by simp; omega)))
          go_wp2_with fail
          refine (awake_any _).mono ?_
          rintro e w5 ⟨rfl, hb5⟩
          go_wp2_with fail
          go_ret
          exact ⟨rfl, hB4.trans (hb5.mono hB4.size)⟩
end Go.Proofs.YtbaobjkhdieapaaDoor
