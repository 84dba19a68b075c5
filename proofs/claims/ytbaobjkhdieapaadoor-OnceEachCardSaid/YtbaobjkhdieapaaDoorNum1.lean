/- Contracts of package num: behind, put, Var. -/
import Derived.Test.YtbaobjkhdieapaaDoorWords
import Derived.Test.YtbaobjkhdieapaaDoorNumS
import Derived.Test.YtbaobjkhdieapaaDoorShelf
import Derived.WalkLawsBesides
import Derived.WalkSpells
import Derived.Outline
import Derived.LoopTactic
import Derived.Lib.Hide
namespace Go.Proofs.YtbaobjkhdieapaaDoor
open Go.RowKit
set_option linter.unusedVariables false
set_option linter.unusedSimpArgs false

set_option maxHeartbeats 400000 in
theorem behind_any (n : Int) (w : World) (h0 : 0 ≤ n) (h : n ≤ 18446744073709551615) :
    Calls Tryd.prog 29 #[.int .u64 n] w fun e w' => e = .returned (.int .i64 (behindN n.toNat)) ∧ w = w' := by
  go_enter Tryd.func29, Tryd.ntmps29
  by_cases h1 : n < 248
  · go_wp2
    go_ret
    exact ⟨by unfold behindN; rw [if_pos (by omega)]; rfl, rfl⟩
  · have hb := bitLen_le64 n.toNat
    go_wp2_with (go_at_call 36; refine (Tryd.bits_Len64 n _ (by omega) (by omega)).mono ?_; rintro e w' ⟨rfl, rfl⟩)
    go_ret
    exact ⟨congrArg (fun x => Ending.returned (Value.int .i64 x)) (by unfold behindN; rw [if_neg (by omega)]; omega), rfl⟩

set_option maxRecDepth 100000 in
set_option maxHeartbeats 1000000 in
theorem put_any (base : Nat) (v : Value) (l : List UInt8) (n : Int) (width : Nat) (w : World) (hn0 : 0 ≤ n) (hn : n ≤ 18446744073709551615) (hw : width ≤ 8) (hown : OwnB w base v l) (hbase : base ≤ w.heap.size) (hlen : l.length ≤ 70368744177664) :
    Calls Tryd.prog 30 #[v, .int .u64 n, .int .i64 width] w fun e w' => ∃ v', e = .returned v' ∧ OwnB w' base v' (l ++ bigL n.toNat width) ∧ Grew w w' v v' := by
  obtain ⟨i0, hi0, hz0, hz1, hz2⟩ := info_parts u8_info
  go_enter Tryd.func30, Tryd.ntmps30
  go_wp2
  go_loopw [0, 7] (fun b i wr => ∃ (k : Nat) (l' : List UInt8), k ≤ width ∧ i = .int .i64 ((k : Int) - 1) ∧ OwnB wr base b l' ∧ l' ++ bigL n.toNat k = l ++ bigL n.toNat width ∧ l'.length + k = l.length + width ∧ Grew w wr v b) (fun _ i _ => (intOf i + 1).toNat)
  case atStart => exact ⟨width, l, Nat.le_refl _, rfl, hown, rfl, rfl, Grew.refl _ _⟩
  case round =>
    obtain ⟨k, l', hk, rfl, ho, hl, hll, hg⟩ := hrel
    by_cases hlt : 1 ≤ k
    · obtain ⟨k, rfl⟩ : ∃ j, k = j + 1 := ⟨k - 1, by omega⟩
      have hX := byte_of n hn0 k
      replace hX := Lib.hid hX
      go_wp2_with (at_builtin; refine wpList_append_any _ rfl (.tmp 14) (.tmp 20) _ rfl base 5 i0 _ 1 1 Tryd.underlying34 hi0 hz0 hz1 hz2 rfl (by omega) _ l'.length (l'.map B8) rfl (ho.alloc _) (wr.heap.size + 1) (some ⟨wr.heap.size, 0, none⟩) 1 1 [B8 (UInt8.ofNat (n.toNat / 256 ^ k))] rfl ?c0 ?c1 ?c2 ?c3 ?c4 ?_; rotate_left 5; intro v2 w2 ho2 hg2 hat2)
      case c0 => exact ⟨rfl, fun _ => ⟨_, rfl, by simp, fun j u hu => by cases j with | zero => (simp at hu; subst hu; simp [Addr.add, B8, hX.out]) | succ j => simp at hu⟩⟩
      case c1 => intro u hu; simp at hu; subst hu; rfl
      case c2 => simp only [maxLen]; omega
      case c3 => omega
      case c4 => have := hg.by_.size; simp; omega
      refine ⟨⟨k, l' ++ [UInt8.ofNat (n.toNat / 256 ^ k)], by omega, rfl, OwnB.of_law ho2, ?_, ?_, hg.trans ((Grew.of_law hg2 hat2).of_alloc fun k hk => (ho.lt k hk).2)⟩, by simp [intOf]⟩
      · have hl' : l' ++ bigL n.toNat (k + 1) = l ++ bigL n.toNat width := hl
        rw [← hl']; simp [bigL]
      · have hll' : l'.length + (k + 1) = l.length + width := hll
        simp; omega
    · obtain rfl : k = 0 := by omega
      go_wp2
      go_ret
      exact ⟨_, rfl, by rw [← hl]; simpa [bigL] using ho, hg⟩

def U64 (n : Int) : Prop := 0 ≤ n ∧ n ≤ 18446744073709551615
set_option maxRecDepth 100000 in
set_option maxHeartbeats 2000000 in
theorem Var_any (A : Option Addr) (ns : List Int) (cap : Nat) (w : World) (hr : Reads w w.heap.size 1 A ns.length (ns.map (Value.int .u64))) (hns : ∀ n ∈ ns, U64 n) (hlen : ns.length ≤ 4294967296) :
    Calls Tryd.prog 22 #[.slice A ns.length cap] w fun e w' => e = .returned (.string ⟨(varL (ns.map Int.toNat)).toArray⟩) ∧ Below w.heap.size w w' := by
  obtain ⟨i0, hi0, hz0, hz1, hz2⟩ := info_parts u8_info
  go_enter Tryd.func22, Tryd.ntmps22
  go_wp2
  go_loopw [3, 9] (fun b i wr => ∃ (k : Nat), k ≤ ns.length ∧ i = .int .i64 k ∧ OwnB wr w.heap.size b (varL ((ns.take k).map Int.toNat)) ∧ Below w.heap.size w wr) (fun _ i _ => ns.length - (intOf i).toNat)
  case atStart => exact ⟨0, Nat.zero_le _, rfl, OwnB.nil _ _, Below.refl _ _⟩
  case round =>
    obtain ⟨k, hk, rfl, ho, hb0⟩ := hrel
    by_cases hlt : k < ns.length
    · obtain ⟨ad, v, rfl, hab, hx, hc⟩ := (hr.below hb0).at_ hlt
      obtain ⟨n, hn, rfl⟩ : ∃ n, ns[k]? = some n ∧ v = .int .u64 n := by
        simp at hx
        obtain ⟨n, h1, rfl⟩ := hx
        exact ⟨n, h1, rfl⟩
      obtain ⟨n0, n1⟩ := hns n (List.mem_of_getElem? hn)
      clear hx
      have hll : (varL ((ns.take k).map Int.toNat)).length ≤ 9 * k := by
        have h := varL_len ((ns.take k).map Int.toNat)
        rw [List.length_map, List.length_take] at h
        omega
      have hz := hb0.size
      have hsn : varL ((ns.take (k + 1)).map Int.toNat) = varL ((ns.take k).map Int.toNat) ++ varL1 n.toNat := by
        rw [List.take_succ_eq_append_getElem hlt, List.map_append, List.map_cons, List.map_nil, varL_snoc, show ns[k] = n from by have := List.getElem?_eq_getElem hlt; rw [this] at hn; simpa using hn]
      replace hn := Lib.hid hn
      replace hsn := Lib.hid hsn
      generalize hL : varL ((ns.take k).map Int.toNat) = L at *
      replace hL := Lib.hid hL
      go_wp2_with fail
      refine (behind_any n _ n0 n1).mono ?_
      rintro e w' ⟨rfl, rfl⟩
      have hbh := behindN_le n.toNat
      by_cases hpos : 0 < behindN n.toNat
      · have hV : varL1 n.toNat = [UInt8.ofNat (247 + behindN n.toNat)] ++ bigL n.toNat (behindN n.toNat) := by unfold varL1; rw [if_pos hpos]; rfl
        replace hV := Lib.hid hV
        generalize behindN n.toNat = m at *
        have hc : (247 + (m : Int)) = (((UInt8.ofNat (247 + m)).toNat : Nat) : Int) := by simp [UInt8.toNat_ofNat']; omega
        replace hc := Lib.hid hc
        go_wp2_with (at_builtin; refine wpList_append_any _ rfl (.tmp 17) (.tmp 21) _ rfl (w.heap.size) 5 i0 _ 1 1 Tryd.underlying34 hi0 hz0 hz1 hz2 rfl (by omega) _ (L).length ((L).map B8) rfl (World.ownsRow.alloc ho _) (wr.heap.size + 1) (some ⟨wr.heap.size, 0, none⟩) 1 1 [B8 (UInt8.ofNat (247 + m))] rfl ?c0 ?c1 ?c2 ?c3 ?c4 ?_; rotate_left 5; intro v2 w2 ho2 hg2 hat2; replace ho2 : OwnB w2 (w.heap.size) v2 (L ++ [UInt8.ofNat (247 + m)]) := OwnB.of_law ho2; have hG2 := (Grew.of_law hg2 hat2).of_alloc fun k hk => (OwnB.lt ho k hk).2; clear hg2 hat2)
        case c0 => exact new_byte _ _ _ _ (hc.out)
        case c1 => intro u hu; simp at hu; subst hu; rfl
        case c2 => simp only [maxLen]; omega
        case c3 => omega
        case c4 => simp; omega
        have hz2' := hG2.by_.size
        refine (put_any w.heap.size _ _ n m _ n0 n1 (by omega) ho2 (by omega) (by simp; omega)).mono ?_
        rintro e w3 ⟨v3, rfl, ho3, hG3⟩
        go_wp2_with fail
        refine ⟨⟨k + 1, by omega, by go_num, ?_, hb0.trans ((hG2.trans hG3).below hz fun k hk => (ho.lt k hk).1)⟩, by simp [intOf]; omega⟩
        rw [hsn.out, hV.out, ← List.append_assoc]
        exact ho3
      · have hV : varL1 n.toNat = [UInt8.ofNat n.toNat] := by unfold varL1; rw [if_neg hpos]
        replace hV := Lib.hid hV
        have hm : behindN n.toNat = 0 := by omega
        rw [hm]
        have hc := byte_of0 n n0
        replace hc := Lib.hid hc
        go_wp2_with (at_builtin; refine wpList_append_any _ rfl (.tmp 26) (.tmp 29) _ rfl (w.heap.size) 5 i0 _ 1 1 Tryd.underlying34 hi0 hz0 hz1 hz2 rfl (by omega) _ (L).length ((L).map B8) rfl (World.ownsRow.alloc ho _) (wr.heap.size + 1) (some ⟨wr.heap.size, 0, none⟩) 1 1 [B8 (UInt8.ofNat n.toNat)] rfl ?c0 ?c1 ?c2 ?c3 ?c4 ?_; rotate_left 5; intro v2 w2 ho2 hg2 hat2; replace ho2 : OwnB w2 (w.heap.size) v2 (L ++ [UInt8.ofNat n.toNat]) := OwnB.of_law ho2; have hG2 := (Grew.of_law hg2 hat2).of_alloc fun k hk => (OwnB.lt ho k hk).2; clear hg2 hat2)
        case c0 => exact new_byte _ _ _ _ (hc.out)
        case c1 => intro u hu; simp at hu; subst hu; rfl
        case c2 => simp only [maxLen]; omega
        case c3 => omega
        case c4 => simp; omega
        refine ⟨⟨k + 1, by omega, by go_num, ?_, hb0.trans (hG2.below hz fun k hk => (ho.lt k hk).1)⟩, by simp [intOf]; omega⟩
        rw [hsn.out, hV.out]
        exact ho2
    · obtain rfl : k = ns.length := by omega
      have hcv := ho.text
      rw [List.take_length] at hcv
      go_wp2_with fail
      go_ret
      exact ⟨rfl, hb0⟩
end Go.Proofs.YtbaobjkhdieapaaDoor
