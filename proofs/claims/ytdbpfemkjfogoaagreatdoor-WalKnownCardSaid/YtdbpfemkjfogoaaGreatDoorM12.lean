/- Contracts of package cell: Make. Results that lie in a block, with others in slots. -/
import Derived.Test.YtdbpfemkjfogoaaGreatDoorM11
import Derived.Test.YtdbpfemkjfogoaaGreatDoorM01
import Derived.Laws.ResultCell
namespace Go.Proofs.YtdbpfemkjfogoaaGreatDoor
open Go.RowKit
set_option linter.unusedVariables false
set_option linter.unusedSimpArgs false
theorem set3_len (l : List UInt8) (a b c : UInt8) (d1 d2 d3 : Bool) : (set3 l a b c d1 d2 d3).length = l.length := by
  unfold set3
  cases d1 <;> cases d2 <;> cases d3 <;> simp
def usC (l : List Value) : Nat → Value := fun k => l.getD k undef
def ZMake (f l : Bool) (n : Nat) (s : ByteArray) : Value := .agg #[.bool f, .bool l, .int .i64 (n : Nat), .string s]
set_option maxRecDepth 100000 in
set_option maxHeartbeats 2000000 in
theorem Make_bad (f l : Bool) (n : Nat) (s : ByteArray) (w : World) (hn : n ≤ 2147483647) (hs : s.size ≤ 1073741824) (hm : mayC ⟨f, l, n, s.data.toList⟩ = false) :
    Calls Tryz.prog 141 #[.agg #[.bool f, .bool l, .int .i64 (n : Nat), .string s]] w fun e w' => e = .returned (.tuple #[.string ⟨#[]⟩, .int .i64 1]) ∧ Below w.heap.size w w' := by
  have hmay := fun w => may_any f l n s w hn hs
  rw [hm] at hmay
  replace hmay := Lib.hid hmay
  clear hm
  go_enter Tryz.func141, Tryz.ntmps141
  go_wp2_with fail
  refine (hmay.out _).mono ?_
  rintro e w1 ⟨rfl, hb1⟩
  have hb : Below w.heap.size w w1 := ((Below.refl _ _).alloc (Nat.le_refl _) _).trans (hb1.mono (by simp))
  clear hb1
  go_wp2_with fail
  go_ret2
  exact ⟨rfl, hb⟩
/-- The array az it is copied to. -/
theorem cel_copied (K : UInt8) (s : ByteArray) (n : Nat) (hs : s.size ≤ 24) : ((set3 (K :: List.replicate 31 0) (UInt8.ofNat s.size) (UInt8.ofNat n) (UInt8.ofNat (n / 256)) true true true).take 4 ++ s.data.toList ++ (set3 (K :: List.replicate 31 0) (UInt8.ofNat s.size) (UInt8.ofNat n) (UInt8.ofNat (n / 256)) true true true).drop (4 + s.size)) = ([K, UInt8.ofNat s.size, UInt8.ofNat n, UInt8.ofNat (n / 256)] ++ s.data.toList ++ List.replicate (24 - s.size) 0) ++ List.replicate 4 0 := by
  have e : set3 (K :: List.replicate 31 0) (UInt8.ofNat s.size) (UInt8.ofNat n) (UInt8.ofNat (n / 256)) true true true = [K, UInt8.ofNat s.size, UInt8.ofNat n, UInt8.ofNat (n / 256)] ++ List.replicate 28 0 := by
    unfold set3
    rfl
  rw [e, List.take_append_of_le_length (by simp), List.take_of_length_le (by simp), List.append_assoc _ (List.replicate (24 - s.size) 0)]
  congr 1
  rw [List.drop_append, List.drop_of_length_le (by simp), List.nil_append, List.drop_replicate, List.replicate_append_replicate]
  congr 1
  simp
  omega
theorem le_set2 {body : List UInt8} (h : body.length = 28) (n : Nat) {i : Nat} (h0 : 28 ≤ i) (h1 : i < 32) {c : UInt8} (hc : UInt8.ofNat (n / 256 ^ (i - 28)) = c) : (body ++ leL n (i - 28) ++ List.replicate (32 - i) 0).set i c = body ++ leL n (i + 1 - 28) ++ List.replicate (32 - (i + 1)) 0 := by
  obtain ⟨k, rfl⟩ : ∃ k, i = 28 + k := ⟨i - 28, by omega⟩
  have := le_set h n (k := k) (by omega)
  rw [show 28 + k - 28 = k from by omega, show 28 + k + 1 - 28 = k + 1 from by omega, show 32 - (28 + k) = 4 - k from by omega, show 32 - (28 + k + 1) = 4 - (k + 1) from by omega, ← hc, show 28 + k - 28 = k from by omega]
  exact this
theorem ArrB.copy {w : World} {g t : Nat} {l : List UInt8} (h : ArrB w g t l) (s : ByteArray) (o len cap : Nat) (ty : TypeId) (hfit : o + s.size ≤ l.length) (hle : s.size ≤ len) :
    ∃ w', (Builtin.copy_ #[97, 9] ty #[.slice (some ⟨g, o, none⟩) len cap, .string s]).run Tryz.prog w = .ok (.int .i64 (s.size : Nat)) w' ∧ ArrB w' g t (l.take o ++ s.data.toList ++ l.drop (o + s.size)) ∧ KeptBut w w' (fun k => k = g) := by
  have hb : (byteV l).size = l.length := by simp [byteV]
  have hr := Lib.run_copy_row_string (P := Tryz.prog) w 97 9 ty 5 g o len cap s (byteV l) t Tryz.underlying97 (by kernel_rfl) h hle (by rw [hb]; exact hfit)
  refine ⟨_, hr, ?_, ⟨rfl, rfl, rfl, by simp, fun k hk hne => setRow_other w g k _ hne⟩⟩
  have e : ((byteV l).toList.take o ++ Lib.byteCells s.data.toList ++ (byteV l).toList.drop (o + s.size)).toArray = byteV (l.take o ++ s.data.toList ++ l.drop (o + s.size)) := by
    unfold byteV Lib.byteCells
    simp [List.map_take, List.map_drop]
  rw [e]
  exact setRow_heap w g _ _ t (0, 0) h
theorem Crc_one {w : World} (hT : TabAt w) (b : Nat) (x : ByteArray) (hb : b < w.heap.size) (hc : w.cell? ⟨b, 0, none⟩ = some (.string x)) (hx : x.size ≤ 1099511627776) :
    Calls Tryz.prog 180 #[.slice (some ⟨b, 0, none⟩) 1 1] w fun e w' => e = .returned (.int .u32 (crcL x.data.toList : Nat)) ∧ Below w.heap.size w w' := by
  have := Crc_any hT (some ⟨b, 0, none⟩) [x] 1 ⟨rfl, fun _ => ⟨_, rfl, hb, fun j u hu => by
    cases j with
    | zero =>
      simp at hu
      subst hu
      exact hc
    | succ j => simp at hu⟩⟩ (by simp) (fun s hs => by rw [List.mem_singleton.1 hs]; exact hx)
  simpa using this
set_option maxRecDepth 100000 in
set_option maxHeartbeats 4000000 in
theorem Make_ok {w : World} (hT : TabAt w) (f l : Bool) (n : Nat) (s : ByteArray) (hn : n ≤ 65535) (hs : s.size ≤ 24) (hm : mayC ⟨f, l, n, s.data.toList⟩ = true) :
    Calls Tryz.prog 141 #[.agg #[.bool f, .bool l, .int .i64 (n : Nat), .string s]] w fun e w' => e = .returned (.tuple #[.string (bs (makeC ⟨f, l, n, s.data.toList⟩)), .int .i64 0]) ∧ Below w.heap.size w w' := by
  have hmay := fun w => may_any f l n s w (by omega) (by omega)
  rw [hm] at hmay
  replace hmay := Lib.hid hmay
  replace hT := Lib.hid hT
  clear hm
  obtain ⟨c1, e1⟩ : ∃ c1 : UInt8, UInt8.ofNat s.size = c1 := ⟨_, rfl⟩
  obtain ⟨c2, e2⟩ : ∃ c2 : UInt8, UInt8.ofNat n = c2 := ⟨_, rfl⟩
  obtain ⟨n8, e8⟩ : ∃ n8 : Nat, n / 256 = n8 := ⟨_, rfl⟩
  obtain ⟨c3, e3⟩ : ∃ c3 : UInt8, UInt8.ofNat n8 = c3 := ⟨_, rfl⟩
  have b1 : IntKind.u8.wrap ((s.size : Nat) : Int) = (c1.toNat : Nat) := by rw [← e1]; exact byte_of0 (s.size : Nat) (by omega)
  have b2 : IntKind.u8.wrap ((n : Nat) : Int) = (c2.toNat : Nat) := by rw [← e2]; exact byte_of0 (n : Nat) (by omega)
  have b4 : ((n : Nat) : Int) / 256 = (n8 : Nat) := by omega
  have b3 : IntKind.u8.wrap ((n8 : Nat) : Int) = (c3.toNat : Nat) := by rw [← e3]; exact byte_of0 (n8 : Nat) (by omega)
  have o1 : bits .or .u8 64 1 = 65 := by kernel_rfl
  have o2 : bits .or .u8 64 2 = 66 := by kernel_rfl
  have o3 : bits .or .u8 65 2 = 67 := by kernel_rfl
  replace e1 := Lib.hid e1
  replace e8 := Lib.hid e8
  replace e2 := Lib.hid e2
  replace e3 := Lib.hid e3
  cases f <;> cases l
  · have hkind : kindC ⟨false, false, n, s.data.toList⟩ = 64 := by unfold kindC; rfl
    go_enter Tryz.func141, Tryz.ntmps141
    go_wp2_with fail
    refine (hmay.out _).mono ?_
    rintro e w1 ⟨rfl, hb1⟩
    have q0 : w1.cell? ⟨w.heap.size, 0, none⟩ = some (.bool false) := (hb1.cell (p := ⟨w.heap.size, 0, none⟩) (by simp)).trans (by simp [go_sem])
    have q1 : w1.cell? ⟨w.heap.size, 1, none⟩ = some (.bool false) := (hb1.cell (p := ⟨w.heap.size, 1, none⟩) (by simp)).trans (by simp [go_sem])
    have q2 : w1.cell? ⟨w.heap.size, 2, none⟩ = some (.int .i64 (n : Nat)) := (hb1.cell (p := ⟨w.heap.size, 2, none⟩) (by simp)).trans (by simp [go_sem])
    have q3 : w1.cell? ⟨w.heap.size, 3, none⟩ = some (.string s) := (hb1.cell (p := ⟨w.heap.size, 3, none⟩) (by simp)).trans (by simp [go_sem])
    have hb : Below w.heap.size w w1 := ((Below.refl _ _).alloc (Nat.le_refl _) _).trans (hb1.mono (by simp))
    have hz1 := hb1.size
    simp at hz1
    have hgl1 : w.heap.size < w1.heap.size := by omega
    have hgn1 : ¬ w.heap.size = w1.heap.size := by omega
    have hgn2 : ¬ w1.heap.size = w.heap.size := by omega
    have hT1 : TabAt w1 := hT.out.below hb hT.out.pos
    replace hT1 := Lib.hid hT1
    replace hb := Lib.hid hb
    clear hb1
    go_wp2_with fail
    obtain ⟨g, hg⟩ : ∃ g, g = w1.heap.size := ⟨_, rfl⟩
    have hA2 : ArrB (w1.alloc (.cells #[.int .u8 64, .int .u8 0, .int .u8 0, .int .u8 0, .int .u8 0, .int .u8 0, .int .u8 0, .int .u8 0, .int .u8 0, .int .u8 0, .int .u8 0, .int .u8 0, .int .u8 0, .int .u8 0, .int .u8 0, .int .u8 0, .int .u8 0, .int .u8 0, .int .u8 0, .int .u8 0, .int .u8 0, .int .u8 0, .int .u8 0, .int .u8 0, .int .u8 0, .int .u8 0, .int .u8 0, .int .u8 0, .int .u8 0, .int .u8 0, .int .u8 0, .int .u8 0] 247)) w1.heap.size 247 (64 :: List.replicate 31 0) := Blk.new _ _ _
    have r2 : (w1.alloc (.cells #[.int .u8 64, .int .u8 0, .int .u8 0, .int .u8 0, .int .u8 0, .int .u8 0, .int .u8 0, .int .u8 0, .int .u8 0, .int .u8 0, .int .u8 0, .int .u8 0, .int .u8 0, .int .u8 0, .int .u8 0, .int .u8 0, .int .u8 0, .int .u8 0, .int .u8 0, .int .u8 0, .int .u8 0, .int .u8 0, .int .u8 0, .int .u8 0, .int .u8 0, .int .u8 0, .int .u8 0, .int .u8 0, .int .u8 0, .int .u8 0, .int .u8 0, .int .u8 0] 247)).cell? ⟨w.heap.size, 2, none⟩ = some (.int .i64 (n : Nat)) := (World.cell?_alloc_lt _ _ _ (by simp; omega)).trans q2
    have r3 : (w1.alloc (.cells #[.int .u8 64, .int .u8 0, .int .u8 0, .int .u8 0, .int .u8 0, .int .u8 0, .int .u8 0, .int .u8 0, .int .u8 0, .int .u8 0, .int .u8 0, .int .u8 0, .int .u8 0, .int .u8 0, .int .u8 0, .int .u8 0, .int .u8 0, .int .u8 0, .int .u8 0, .int .u8 0, .int .u8 0, .int .u8 0, .int .u8 0, .int .u8 0, .int .u8 0, .int .u8 0, .int .u8 0, .int .u8 0, .int .u8 0, .int .u8 0, .int .u8 0, .int .u8 0] 247)).cell? ⟨w.heap.size, 3, none⟩ = some (.string s) := (World.cell?_alloc_lt _ _ _ (by simp; omega)).trans q3
    have hB2 : Below w.heap.size w (w1.alloc (.cells #[.int .u8 64, .int .u8 0, .int .u8 0, .int .u8 0, .int .u8 0, .int .u8 0, .int .u8 0, .int .u8 0, .int .u8 0, .int .u8 0, .int .u8 0, .int .u8 0, .int .u8 0, .int .u8 0, .int .u8 0, .int .u8 0, .int .u8 0, .int .u8 0, .int .u8 0, .int .u8 0, .int .u8 0, .int .u8 0, .int .u8 0, .int .u8 0, .int .u8 0, .int .u8 0, .int .u8 0, .int .u8 0, .int .u8 0, .int .u8 0, .int .u8 0, .int .u8 0] 247)) := hb.out.alloc (by omega) _
    have hz2 : (w1.alloc (.cells #[.int .u8 64, .int .u8 0, .int .u8 0, .int .u8 0, .int .u8 0, .int .u8 0, .int .u8 0, .int .u8 0, .int .u8 0, .int .u8 0, .int .u8 0, .int .u8 0, .int .u8 0, .int .u8 0, .int .u8 0, .int .u8 0, .int .u8 0, .int .u8 0, .int .u8 0, .int .u8 0, .int .u8 0, .int .u8 0, .int .u8 0, .int .u8 0, .int .u8 0, .int .u8 0, .int .u8 0, .int .u8 0, .int .u8 0, .int .u8 0, .int .u8 0, .int .u8 0] 247)).heap.size = w1.heap.size + 1 := by simp
    rw [← hg] at hA2 hz2
    have hgn : ¬ w.heap.size = g := by omega
    clear q0 q1 q2 q3
    generalize w1.alloc (.cells #[.int .u8 64, .int .u8 0, .int .u8 0, .int .u8 0, .int .u8 0, .int .u8 0, .int .u8 0, .int .u8 0, .int .u8 0, .int .u8 0, .int .u8 0, .int .u8 0, .int .u8 0, .int .u8 0, .int .u8 0, .int .u8 0, .int .u8 0, .int .u8 0, .int .u8 0, .int .u8 0, .int .u8 0, .int .u8 0, .int .u8 0, .int .u8 0, .int .u8 0, .int .u8 0, .int .u8 0, .int .u8 0, .int .u8 0, .int .u8 0, .int .u8 0, .int .u8 0] 247) = w2 at *
    rw [← hg]
    have q2 := r2
    have q3 := r3
    have hgl : w.heap.size < w2.heap.size := by omega
    obtain ⟨L, hL⟩ : ∃ L : List UInt8, L = 64 :: List.replicate 31 0 := ⟨_, rfl⟩
    have hL32 : L.length = 32 := by rw [hL]; rfl
    rw [← hL] at hA2
    replace hg := Lib.hid hg
    replace hL := Lib.hid hL
    replace hB2 := Lib.hid hB2
    clear r2 r3 hb
    refine wp_region_task (fun d w' => JB w2 g 247 (set3 L c1 c2 c3 (d 12) (d 14) (d 16)) w') (tauL [some (.pointer (some ⟨w.heap.size, 3, none⟩)), some (.string s), some (.int .i64 (s.size : Nat)), some (.int .u8 (c1.toNat : Nat)), some (.pointer (some ⟨w.heap.size, 2, none⟩)), some (.int .i64 (n : Nat)), some (.int .u8 (c2.toNat : Nat)), some (.pointer (some ⟨w.heap.size, 2, none⟩)), some (.int .i64 (n : Nat)), some (.int .i64 (n8 : Nat)), some (.int .u8 (c3.toNat : Nat)), some (.pointer (some ⟨g, 1, none⟩)), none, some (.pointer (some ⟨g, 2, none⟩)), none, some (.pointer (some ⟨g, 3, none⟩)), none] tauN) (usC (List.replicate 17 undef)) ?m1a ?m2a ?m3a ?m4a ⟨hA2, (KeptBut.refl _ _).drew⟩ ?m5a ?m6a
    case m1a => kernel_rfl
    case m2a => kernel_rfl
    case m3a => kernel_rfl
    case m4a => kernel_rfl
    case m5a =>
      refine ⟨?o0a, ?o1a, ?o2a, ?o3a, ?o4a, ?o5a, ?o6a, ?o7a, ?o8a, ?o9a, ?o10a, ?o11a, ?o12a, ?o13a, ?o14a, ?o15a, ?o16a, trivial⟩
      case o0a =>
        intro d us wx hd hJ hp hu hi
        refine .inl ⟨by kernel_rfl, fun K Q hK => ?_⟩
        simp only [putAll, Act.put, Nat.reduceAdd] at hK ⊢
        go_simp
        refine Eq.mp ?_ (hK (.pointer (some ⟨w.heap.size, 3, none⟩)) _ hJ rfl (fun _ _ _ h => h))
        kernel_rfl
      case o1a =>
        intro d us wx hd hJ hp hu hi
        have h0 : us 0 = _ := (hp 0 (by simp [Region.binds])).2
        have z0 : wx.cell? ⟨w.heap.size, 3, none⟩ = some (.string s) := (hJ.2.cell ⟨w.heap.size, 3, none⟩ hgl hgn).trans q3
        refine .inl ⟨by kernel_rfl, fun K Q hK => ?_⟩
        simp only [putAll, Act.put, Nat.reduceAdd, h0] at hK ⊢
        go_simp
        refine Eq.mp ?_ (hK (.string s) _ hJ rfl (fun _ _ _ h => h))
        kernel_rfl
      case o2a =>
        intro d us wx hd hJ hp hu hi
        have h1 : us 1 = _ := (hp 1 (by simp [Region.binds])).2
        refine .inl ⟨by kernel_rfl, fun K Q hK => ?_⟩
        simp only [putAll, Act.put, Nat.reduceAdd, h1] at hK ⊢
        go_simp
        refine Eq.mp ?_ (hK (.int .i64 (s.size : Nat)) _ hJ rfl (fun _ _ _ h => h))
        kernel_rfl
      case o3a =>
        intro d us wx hd hJ hp hu hi
        have h2 : us 2 = _ := (hp 2 (by simp [Region.binds])).2
        refine .inl ⟨by kernel_rfl, fun K Q hK => ?_⟩
        simp only [putAll, Act.put, Nat.reduceAdd, h2] at hK ⊢
        go_simp
        try rw [b1]
        refine Eq.mp ?_ (hK (.int .u8 (c1.toNat : Nat)) _ hJ rfl (fun k u _ h => tauL_any k u h))
        kernel_rfl
      case o4a =>
        intro d us wx hd hJ hp hu hi
        refine .inl ⟨by kernel_rfl, fun K Q hK => ?_⟩
        simp only [putAll, Act.put, Nat.reduceAdd] at hK ⊢
        go_simp
        refine Eq.mp ?_ (hK (.pointer (some ⟨w.heap.size, 2, none⟩)) _ hJ rfl (fun _ _ _ h => h))
        kernel_rfl
      case o5a =>
        intro d us wx hd hJ hp hu hi
        have h4 : us 4 = _ := (hp 4 (by simp [Region.binds])).2
        have z0 : wx.cell? ⟨w.heap.size, 2, none⟩ = some (.int .i64 (n : Nat)) := (hJ.2.cell ⟨w.heap.size, 2, none⟩ hgl hgn).trans q2
        refine .inl ⟨by kernel_rfl, fun K Q hK => ?_⟩
        simp only [putAll, Act.put, Nat.reduceAdd, h4] at hK ⊢
        go_simp
        refine Eq.mp ?_ (hK (.int .i64 (n : Nat)) _ hJ rfl (fun _ _ _ h => h))
        kernel_rfl
      case o6a =>
        intro d us wx hd hJ hp hu hi
        have h5 : us 5 = _ := (hp 5 (by simp [Region.binds])).2
        refine .inl ⟨by kernel_rfl, fun K Q hK => ?_⟩
        simp only [putAll, Act.put, Nat.reduceAdd, h5] at hK ⊢
        go_simp
        try rw [b2]
        refine Eq.mp ?_ (hK (.int .u8 (c2.toNat : Nat)) _ hJ rfl (fun k u _ h => tauL_any k u h))
        kernel_rfl
      case o7a =>
        intro d us wx hd hJ hp hu hi
        refine .inl ⟨by kernel_rfl, fun K Q hK => ?_⟩
        simp only [putAll, Act.put, Nat.reduceAdd] at hK ⊢
        go_simp
        refine Eq.mp ?_ (hK (.pointer (some ⟨w.heap.size, 2, none⟩)) _ hJ rfl (fun _ _ _ h => h))
        kernel_rfl
      case o8a =>
        intro d us wx hd hJ hp hu hi
        have h7 : us 7 = _ := (hp 7 (by simp [Region.binds])).2
        have z0 : wx.cell? ⟨w.heap.size, 2, none⟩ = some (.int .i64 (n : Nat)) := (hJ.2.cell ⟨w.heap.size, 2, none⟩ hgl hgn).trans q2
        refine .inl ⟨by kernel_rfl, fun K Q hK => ?_⟩
        simp only [putAll, Act.put, Nat.reduceAdd, h7] at hK ⊢
        go_simp
        refine Eq.mp ?_ (hK (.int .i64 (n : Nat)) _ hJ rfl (fun _ _ _ h => h))
        kernel_rfl
      case o9a =>
        intro d us wx hd hJ hp hu hi
        have h8 : us 8 = _ := (hp 8 (by simp [Region.binds])).2
        refine .inl ⟨by kernel_rfl, fun K Q hK => ?_⟩
        simp only [putAll, Act.put, Nat.reduceAdd, h8] at hK ⊢
        go_simp
        try rw [b4]
        refine Eq.mp ?_ (hK (.int .i64 (n8 : Nat)) _ hJ rfl (fun k u _ h => tauL_any k u h))
        kernel_rfl
      case o10a =>
        intro d us wx hd hJ hp hu hi
        have h9 : us 9 = _ := (hp 9 (by simp [Region.binds])).2
        refine .inl ⟨by kernel_rfl, fun K Q hK => ?_⟩
        simp only [putAll, Act.put, Nat.reduceAdd, h9] at hK ⊢
        go_simp
        try rw [b3]
        refine Eq.mp ?_ (hK (.int .u8 (c3.toNat : Nat)) _ hJ rfl (fun k u _ h => tauL_any k u h))
        kernel_rfl
      case o11a =>
        intro d us wx hd hJ hp hu hi
        refine .inl ⟨by kernel_rfl, fun K Q hK => ?_⟩
        simp only [putAll, Act.put, Nat.reduceAdd] at hK ⊢
        go_simp
        refine Eq.mp ?_ (hK (.pointer (some ⟨g, 1, none⟩)) _ hJ rfl (fun _ _ _ h => h))
        kernel_rfl
      case o12a =>
        intro d us wx hd hJ hp hu hi
        have h11 : us 11 = _ := (hp 11 (by simp [Region.binds])).2
        have h3 : us 3 = _ := (hp 3 (by simp [Region.binds])).2
        obtain ⟨v0, hv0⟩ : ∃ v0, (set3 L c1 c2 c3 (d 12) (d 14) (d 16))[1]? = some v0 := ⟨_, List.getElem?_eq_getElem (by rw [set3_len]; omega)⟩
        have z0 := hJ.1.cell hv0
        have f0 := Blk.frozen hJ.1 1
        have l0 := hJ.1.lt
        refine .inl ⟨by kernel_rfl, fun K Q hK => ?_⟩
        simp only [putAll, Act.put, Nat.reduceAdd, h11, h3] at hK ⊢
        go_simp
        refine Eq.mp ?_ (hK (undef) (wx.setCell ⟨g, 1, none⟩ (.int .u8 (c1.toNat : Nat))) (JB.set hJ (set3_1 _ _ _ _ _ _ _)) trivial (fun k u _ h => tauL_any k u h))
        kernel_rfl
      case o13a =>
        intro d us wx hd hJ hp hu hi
        refine .inl ⟨by kernel_rfl, fun K Q hK => ?_⟩
        simp only [putAll, Act.put, Nat.reduceAdd] at hK ⊢
        go_simp
        refine Eq.mp ?_ (hK (.pointer (some ⟨g, 2, none⟩)) _ hJ rfl (fun _ _ _ h => h))
        kernel_rfl
      case o14a =>
        intro d us wx hd hJ hp hu hi
        have h13 : us 13 = _ := (hp 13 (by simp [Region.binds])).2
        have h6 : us 6 = _ := (hp 6 (by simp [Region.binds])).2
        obtain ⟨v0, hv0⟩ : ∃ v0, (set3 L c1 c2 c3 (d 12) (d 14) (d 16))[2]? = some v0 := ⟨_, List.getElem?_eq_getElem (by rw [set3_len]; omega)⟩
        have z0 := hJ.1.cell hv0
        have f0 := Blk.frozen hJ.1 2
        have l0 := hJ.1.lt
        refine .inl ⟨by kernel_rfl, fun K Q hK => ?_⟩
        simp only [putAll, Act.put, Nat.reduceAdd, h13, h6] at hK ⊢
        go_simp
        refine Eq.mp ?_ (hK (undef) (wx.setCell ⟨g, 2, none⟩ (.int .u8 (c2.toNat : Nat))) (JB.set hJ (set3_2 _ _ _ _ _ _ _)) trivial (fun k u _ h => tauL_any k u h))
        kernel_rfl
      case o15a =>
        intro d us wx hd hJ hp hu hi
        refine .inl ⟨by kernel_rfl, fun K Q hK => ?_⟩
        simp only [putAll, Act.put, Nat.reduceAdd] at hK ⊢
        go_simp
        refine Eq.mp ?_ (hK (.pointer (some ⟨g, 3, none⟩)) _ hJ rfl (fun _ _ _ h => h))
        kernel_rfl
      case o16a =>
        intro d us wx hd hJ hp hu hi
        have h15 : us 15 = _ := (hp 15 (by simp [Region.binds])).2
        have h10 : us 10 = _ := (hp 10 (by simp [Region.binds])).2
        obtain ⟨v0, hv0⟩ : ∃ v0, (set3 L c1 c2 c3 (d 12) (d 14) (d 16))[3]? = some v0 := ⟨_, List.getElem?_eq_getElem (by rw [set3_len]; omega)⟩
        have z0 := hJ.1.cell hv0
        have f0 := Blk.frozen hJ.1 3
        have l0 := hJ.1.lt
        refine .inl ⟨by kernel_rfl, fun K Q hK => ?_⟩
        simp only [putAll, Act.put, Nat.reduceAdd, h15, h10] at hK ⊢
        go_simp
        refine Eq.mp ?_ (hK (undef) (wx.setCell ⟨g, 3, none⟩ (.int .u8 (c3.toNat : Nat))) (JB.set hJ (set3_3 _ _ _ _ _ _ _)) trivial (fun k u _ h => tauL_any k u h))
        kernel_rfl
    intro d us w3 hJ hall
    have d12 := (hall 12 (by simp)).1
    have d14 := (hall 14 (by simp)).1
    have d16 := (hall 16 (by simp)).1
    rw [d12, d14, d16] at hJ
    obtain ⟨hA3, hk3⟩ := hJ
    simp only [putAll, Act.put, Nat.reduceAdd]
    clear hall d12 d14 d16
    have p3 : w3.cell? ⟨w.heap.size, 3, none⟩ = some (.string s) := (hk3.cell ⟨w.heap.size, 3, none⟩ hgl hgn).trans q3
    have hz3 := hk3.size
    have hlg3 := hA3.lt
    have hgl3 : w.heap.size < w3.heap.size := by omega
    have hB3 : Below w.heap.size w w3 := hB2.out.trans (hk3.below (B := w.heap.size) (fun k e => by rw [e]; have := hg.out; omega) (by omega))
    replace hB3 := Lib.hid hB3
    have hgn3 : ¬ g = w.heap.size := fun e => hgn e.symm
    go_simp
    go_wp2_with fail
    have hxc := @Ext.cell
    have hxf := @Ext.frozen
    refine wp_hide (fun Q0 hQ0 => ?_)
    refine wp_region_line (fun w' => ∃ x : Ext _, w' = x.w) [some false, some false, some false, none] 0 (by kernel_rfl) (by kernel_rfl) ⟨⟨_, (Below.refl _ _).drew⟩, rfl⟩ ?_
    simp only [earlyL, tailL]
    repeat (first | ((with_reducible refine wpMix_p ?_); go_big_quiet_step (fail); refine wpQuiet_nil ?_) | ((with_reducible refine wpMix_e ?_); go_big_quiet_step ((first | fail)); refine wpQuiet_nil ?_))
    refine wpMix_nil ?_
    clear hxc hxf
    intro wx hwx
    obtain ⟨x, hx⟩ := hwx
    have hb := x.below
    rw [← hx] at hb
    clear hx x
    have hA4 : ArrB wx g _ _ := Blk.below hA3 hb hA3.lt
    have hB4 := hB3.out.trans (hb.mono (by omega))
    have hz4 := hb.size
    obtain ⟨w5, hrun, hA5, hk5⟩ := hA4.copy s 4 28 28 3 (by rw [set3_len, hL32]; omega) (by omega)
    refine wpTail_step ?_
    intro Q1 hQ1
    go_wp2_with (at_builtin; refine Lib.wpList_copy_run _ rfl _ _ 97 9 rfl _ _ rfl rfl hrun ?_)
    refine hQ1 _ _ rfl (fun h => absurd h (by decide)) ?_
    clear hQ1 Q1
    refine wpTail_nil ?_
    refine hQ0 _ _ ?_
    clear hQ0 Q0
    have hlist : (set3 L c1 c2 c3 true true true).take 4 ++ s.data.toList ++ (set3 L c1 c2 c3 true true true).drop (4 + s.size) = bodyC ⟨false, false, n, s.data.toList⟩ ++ List.replicate 4 0 := by
      rw [hL.out, ← e1.out, ← e2.out, ← e3.out, ← e8.out, cel_copied 64 s n hs]
      unfold bodyC
      rw [hkind]
      rfl
    rw [hlist] at hA5
    have hB5 : Below w.heap.size w w5 := hB4.trans (hk5.below (B := w.heap.size) (fun k e => by rw [e]; have := hg.out; omega) (by omega))
    have hz5 := hk5.size
    clear hlist hrun hA4 hb hB4 hA3 hk3 p3 hA2 q2 q3 hk5
    obtain ⟨body, hbody⟩ : ∃ body, bodyC ⟨false, false, n, s.data.toList⟩ = body := ⟨_, rfl⟩
    have hbl : body.length = 28 := by rw [← hbody]; exact bodyC_len hs
    rw [hbody] at hA5
    have hmk : makeC ⟨false, false, n, s.data.toList⟩ = body ++ leL (crcL body) 4 := by unfold makeC; rw [hbody]
    replace hbody := Lib.hid hbody
    replace hmk := Lib.hid hmk
    have ht5 := hA5.text 28 32 (by simp; omega)
    rw [List.take_append_of_le_length (by omega), List.take_of_length_le (by omega)] at ht5
    have hT5 : TabAt w5 := hT.out.below hB5 hT.out.pos
    replace hB5 := Lib.hid hB5
    have hgl5 : g < w5.heap.size := hA5.lt
    clear ht5
    have ht5 := hA5.text 28 32 (by simp; omega)
    rw [List.take_append_of_le_length (by omega), List.take_of_length_le (by omega)] at ht5
    have hcrc := Crc_one (w := w5.alloc (.cells #[.string (bs body)] 9)) (hT5.below (B := w5.heap.size) ((Below.refl _ _).alloc (Nat.le_refl _) _) hT5.pos) w5.heap.size (bs body) (by simp) (by simp [go_sem]) (by rw [bs_size]; omega)
    rw [bs_data] at hcrc
    have hcl := crcL_lt body
    replace hA5 := Lib.hid hA5
    replace hcrc := Lib.hid hcrc
    go_wp2_with fail
    refine hcrc.out.mono ?_
    rintro e w6 ⟨rfl, hb6⟩
    have hb6' : Below w5.heap.size w5 w6 := ((Below.refl _ _).alloc (Nat.le_refl _) _).trans (hb6.mono (by simp))
    have hA6 : ArrB w6 g _ _ := Blk.below hA5.out hb6' hgl5
    have hz6 := hb6'.size
    have hB6 : Below w.heap.size w w6 := hB5.out.trans (hb6'.mono (by omega))
    clear hb6 hb6' ht5
    replace hB6 := Lib.hid hB6
    generalize crcL body = crc at *
    go_wp2_with fail
    go_loopw [5, 6] (fun sv iv wr => ∃ i : Nat, 28 ≤ i ∧ i ≤ 32 ∧ iv = .int .i64 (i : Nat) ∧ sv = .int .u32 (crc / 256 ^ (i - 28) : Nat) ∧ JB w6 g 247 (body ++ leL crc (i - 28) ++ List.replicate (32 - i) 0) wr) (fun _ iv _ => 32 - (intOf iv).toNat)
    case atStart => exact ⟨28, Nat.le_refl _, by decide, rfl, by simp, by simpa [leL] using hA6, KeptBut.refl _ _⟩
    case round =>
      obtain ⟨i, hi0, hi1, rfl, rfl, hJ⟩ := hrel
      have hpow : crc / 256 ^ (i - 28) < 4294967296 := Nat.lt_of_le_of_lt (Nat.div_le_self _ _) hcl
      have hnext : crc / 256 ^ (i - 28) / 256 = crc / 256 ^ (i + 1 - 28) := by rw [Nat.div_div_eq_div_mul, show i + 1 - 28 = (i - 28) + 1 from by omega, Nat.pow_succ]
      have hzr := hJ.2.size
      by_cases hlt : i < 32
      · obtain ⟨X, hX⟩ : ∃ X, crc / 256 ^ (i - 28) = X := ⟨_, rfl⟩
        obtain ⟨c, hc⟩ : ∃ c, UInt8.ofNat X = c := ⟨_, rfl⟩
        have hcw : IntKind.u8.wrap ((X : Nat) : Int) = (c.toNat : Nat) := by rw [← hc]; exact byte_of0 (X : Nat) (by omega)
        obtain ⟨Y, hY⟩ : ∃ Y, crc / 256 ^ (i + 1 - 28) = Y := ⟨_, rfl⟩
        have hXY : ((X : Nat) : Int) / 256 = (Y : Nat) := by rw [hX, hY] at hnext; omega
        have hset := hJ.set (i := i) (c := c) (le_set2 hbl crc hi0 hlt (by rw [hX]; exact hc))
        obtain ⟨v0, hv0⟩ : ∃ v0, (body ++ leL crc (i - 28) ++ List.replicate (32 - i) 0)[i]? = some v0 := ⟨_, List.getElem?_eq_getElem (by simp [leL_len]; omega)⟩
        have z0 := hJ.1.cell hv0
        have f0 := Blk.frozen hJ.1 i
        have l0 := hJ.1.lt
        rw [hX]
        replace hX := Lib.hid hX
        replace hc := Lib.hid hc
        replace hY := Lib.hid hY
        replace hnext := Lib.hid hnext
        replace hset := Lib.hid hset
        replace hJ := Lib.hid hJ
        have hlt' : (i : Int) < 32 := by omega
        clear hv0
        go_wp2_with fail
        exact ⟨⟨i + 1, by omega, by omega, by go_num, by rw [hY.out], hset.out⟩, by first | omega | (simp only [intOf]; omega)⟩
      · obtain rfl : i = 32 := by omega
        have hA7 := hJ.1
        have ht7 := hA7.text 32 32 (by simp [leL_len]; omega)
        rw [List.take_of_length_le (by simp [leL_len]; omega)] at ht7
        have hfin : body ++ leL crc (32 - 28) ++ List.replicate (32 - 32) 0 = makeC ⟨false, false, n, s.data.toList⟩ := by rw [hmk.out]; simp
        rw [hfin] at ht7
        have hB7 : Below w.heap.size w wr := hB6.out.trans (hJ.2.below (B := w.heap.size) (fun k e => by rw [e]; have := hg.out; omega) (by omega))
        generalize crc / 256 ^ (32 - 28) = X at *
        replace hfin := Lib.hid hfin
        replace hJ := Lib.hid hJ
        replace hB7 := Lib.hid hB7
        clear hA7 hnext
        go_wp2_with fail
        go_ret2
        exact ⟨rfl, hB7.out⟩
  · have hkind : kindC ⟨false, true, n, s.data.toList⟩ = 66 := by unfold kindC; rfl
    go_enter Tryz.func141, Tryz.ntmps141
    go_wp2_with fail
    refine (hmay.out _).mono ?_
    rintro e w1 ⟨rfl, hb1⟩
    have q0 : w1.cell? ⟨w.heap.size, 0, none⟩ = some (.bool false) := (hb1.cell (p := ⟨w.heap.size, 0, none⟩) (by simp)).trans (by simp [go_sem])
    have q1 : w1.cell? ⟨w.heap.size, 1, none⟩ = some (.bool true) := (hb1.cell (p := ⟨w.heap.size, 1, none⟩) (by simp)).trans (by simp [go_sem])
    have q2 : w1.cell? ⟨w.heap.size, 2, none⟩ = some (.int .i64 (n : Nat)) := (hb1.cell (p := ⟨w.heap.size, 2, none⟩) (by simp)).trans (by simp [go_sem])
    have q3 : w1.cell? ⟨w.heap.size, 3, none⟩ = some (.string s) := (hb1.cell (p := ⟨w.heap.size, 3, none⟩) (by simp)).trans (by simp [go_sem])
    have hb : Below w.heap.size w w1 := ((Below.refl _ _).alloc (Nat.le_refl _) _).trans (hb1.mono (by simp))
    have hz1 := hb1.size
    simp at hz1
    have hgl1 : w.heap.size < w1.heap.size := by omega
    have hgn1 : ¬ w.heap.size = w1.heap.size := by omega
    have hgn2 : ¬ w1.heap.size = w.heap.size := by omega
    have hT1 : TabAt w1 := hT.out.below hb hT.out.pos
    replace hT1 := Lib.hid hT1
    replace hb := Lib.hid hb
    clear hb1
    go_wp2_with fail
    obtain ⟨g, hg⟩ : ∃ g, g = w1.heap.size := ⟨_, rfl⟩
    have hA2 : ArrB (w1.alloc (.cells #[.int .u8 66, .int .u8 0, .int .u8 0, .int .u8 0, .int .u8 0, .int .u8 0, .int .u8 0, .int .u8 0, .int .u8 0, .int .u8 0, .int .u8 0, .int .u8 0, .int .u8 0, .int .u8 0, .int .u8 0, .int .u8 0, .int .u8 0, .int .u8 0, .int .u8 0, .int .u8 0, .int .u8 0, .int .u8 0, .int .u8 0, .int .u8 0, .int .u8 0, .int .u8 0, .int .u8 0, .int .u8 0, .int .u8 0, .int .u8 0, .int .u8 0, .int .u8 0] 247)) w1.heap.size 247 (66 :: List.replicate 31 0) := Blk.new _ _ _
    have r2 : (w1.alloc (.cells #[.int .u8 66, .int .u8 0, .int .u8 0, .int .u8 0, .int .u8 0, .int .u8 0, .int .u8 0, .int .u8 0, .int .u8 0, .int .u8 0, .int .u8 0, .int .u8 0, .int .u8 0, .int .u8 0, .int .u8 0, .int .u8 0, .int .u8 0, .int .u8 0, .int .u8 0, .int .u8 0, .int .u8 0, .int .u8 0, .int .u8 0, .int .u8 0, .int .u8 0, .int .u8 0, .int .u8 0, .int .u8 0, .int .u8 0, .int .u8 0, .int .u8 0, .int .u8 0] 247)).cell? ⟨w.heap.size, 2, none⟩ = some (.int .i64 (n : Nat)) := (World.cell?_alloc_lt _ _ _ (by simp; omega)).trans q2
    have r3 : (w1.alloc (.cells #[.int .u8 66, .int .u8 0, .int .u8 0, .int .u8 0, .int .u8 0, .int .u8 0, .int .u8 0, .int .u8 0, .int .u8 0, .int .u8 0, .int .u8 0, .int .u8 0, .int .u8 0, .int .u8 0, .int .u8 0, .int .u8 0, .int .u8 0, .int .u8 0, .int .u8 0, .int .u8 0, .int .u8 0, .int .u8 0, .int .u8 0, .int .u8 0, .int .u8 0, .int .u8 0, .int .u8 0, .int .u8 0, .int .u8 0, .int .u8 0, .int .u8 0, .int .u8 0] 247)).cell? ⟨w.heap.size, 3, none⟩ = some (.string s) := (World.cell?_alloc_lt _ _ _ (by simp; omega)).trans q3
    have hB2 : Below w.heap.size w (w1.alloc (.cells #[.int .u8 66, .int .u8 0, .int .u8 0, .int .u8 0, .int .u8 0, .int .u8 0, .int .u8 0, .int .u8 0, .int .u8 0, .int .u8 0, .int .u8 0, .int .u8 0, .int .u8 0, .int .u8 0, .int .u8 0, .int .u8 0, .int .u8 0, .int .u8 0, .int .u8 0, .int .u8 0, .int .u8 0, .int .u8 0, .int .u8 0, .int .u8 0, .int .u8 0, .int .u8 0, .int .u8 0, .int .u8 0, .int .u8 0, .int .u8 0, .int .u8 0, .int .u8 0] 247)) := hb.out.alloc (by omega) _
    have hz2 : (w1.alloc (.cells #[.int .u8 66, .int .u8 0, .int .u8 0, .int .u8 0, .int .u8 0, .int .u8 0, .int .u8 0, .int .u8 0, .int .u8 0, .int .u8 0, .int .u8 0, .int .u8 0, .int .u8 0, .int .u8 0, .int .u8 0, .int .u8 0, .int .u8 0, .int .u8 0, .int .u8 0, .int .u8 0, .int .u8 0, .int .u8 0, .int .u8 0, .int .u8 0, .int .u8 0, .int .u8 0, .int .u8 0, .int .u8 0, .int .u8 0, .int .u8 0, .int .u8 0, .int .u8 0] 247)).heap.size = w1.heap.size + 1 := by simp
    rw [← hg] at hA2 hz2
    have hgn : ¬ w.heap.size = g := by omega
    clear q0 q1 q2 q3
    generalize w1.alloc (.cells #[.int .u8 66, .int .u8 0, .int .u8 0, .int .u8 0, .int .u8 0, .int .u8 0, .int .u8 0, .int .u8 0, .int .u8 0, .int .u8 0, .int .u8 0, .int .u8 0, .int .u8 0, .int .u8 0, .int .u8 0, .int .u8 0, .int .u8 0, .int .u8 0, .int .u8 0, .int .u8 0, .int .u8 0, .int .u8 0, .int .u8 0, .int .u8 0, .int .u8 0, .int .u8 0, .int .u8 0, .int .u8 0, .int .u8 0, .int .u8 0, .int .u8 0, .int .u8 0] 247) = w2 at *
    rw [← hg]
    have q2 := r2
    have q3 := r3
    have hgl : w.heap.size < w2.heap.size := by omega
    obtain ⟨L, hL⟩ : ∃ L : List UInt8, L = 66 :: List.replicate 31 0 := ⟨_, rfl⟩
    have hL32 : L.length = 32 := by rw [hL]; rfl
    rw [← hL] at hA2
    replace hg := Lib.hid hg
    replace hL := Lib.hid hL
    replace hB2 := Lib.hid hB2
    clear r2 r3 hb
    refine wp_region_task (fun d w' => JB w2 g 247 (set3 L c1 c2 c3 (d 12) (d 14) (d 16)) w') (tauL [some (.pointer (some ⟨w.heap.size, 3, none⟩)), some (.string s), some (.int .i64 (s.size : Nat)), some (.int .u8 (c1.toNat : Nat)), some (.pointer (some ⟨w.heap.size, 2, none⟩)), some (.int .i64 (n : Nat)), some (.int .u8 (c2.toNat : Nat)), some (.pointer (some ⟨w.heap.size, 2, none⟩)), some (.int .i64 (n : Nat)), some (.int .i64 (n8 : Nat)), some (.int .u8 (c3.toNat : Nat)), some (.pointer (some ⟨g, 1, none⟩)), none, some (.pointer (some ⟨g, 2, none⟩)), none, some (.pointer (some ⟨g, 3, none⟩)), none] tauN) (usC (List.replicate 17 undef)) ?m1b ?m2b ?m3b ?m4b ⟨hA2, (KeptBut.refl _ _).drew⟩ ?m5b ?m6b
    case m1b => kernel_rfl
    case m2b => kernel_rfl
    case m3b => kernel_rfl
    case m4b => kernel_rfl
    case m5b =>
      refine ⟨?o0b, ?o1b, ?o2b, ?o3b, ?o4b, ?o5b, ?o6b, ?o7b, ?o8b, ?o9b, ?o10b, ?o11b, ?o12b, ?o13b, ?o14b, ?o15b, ?o16b, trivial⟩
      case o0b =>
        intro d us wx hd hJ hp hu hi
        refine .inl ⟨by kernel_rfl, fun K Q hK => ?_⟩
        simp only [putAll, Act.put, Nat.reduceAdd] at hK ⊢
        go_simp
        refine Eq.mp ?_ (hK (.pointer (some ⟨w.heap.size, 3, none⟩)) _ hJ rfl (fun _ _ _ h => h))
        kernel_rfl
      case o1b =>
        intro d us wx hd hJ hp hu hi
        have h0 : us 0 = _ := (hp 0 (by simp [Region.binds])).2
        have z0 : wx.cell? ⟨w.heap.size, 3, none⟩ = some (.string s) := (hJ.2.cell ⟨w.heap.size, 3, none⟩ hgl hgn).trans q3
        refine .inl ⟨by kernel_rfl, fun K Q hK => ?_⟩
        simp only [putAll, Act.put, Nat.reduceAdd, h0] at hK ⊢
        go_simp
        refine Eq.mp ?_ (hK (.string s) _ hJ rfl (fun _ _ _ h => h))
        kernel_rfl
      case o2b =>
        intro d us wx hd hJ hp hu hi
        have h1 : us 1 = _ := (hp 1 (by simp [Region.binds])).2
        refine .inl ⟨by kernel_rfl, fun K Q hK => ?_⟩
        simp only [putAll, Act.put, Nat.reduceAdd, h1] at hK ⊢
        go_simp
        refine Eq.mp ?_ (hK (.int .i64 (s.size : Nat)) _ hJ rfl (fun _ _ _ h => h))
        kernel_rfl
      case o3b =>
        intro d us wx hd hJ hp hu hi
        have h2 : us 2 = _ := (hp 2 (by simp [Region.binds])).2
        refine .inl ⟨by kernel_rfl, fun K Q hK => ?_⟩
        simp only [putAll, Act.put, Nat.reduceAdd, h2] at hK ⊢
        go_simp
        try rw [b1]
        refine Eq.mp ?_ (hK (.int .u8 (c1.toNat : Nat)) _ hJ rfl (fun k u _ h => tauL_any k u h))
        kernel_rfl
      case o4b =>
        intro d us wx hd hJ hp hu hi
        refine .inl ⟨by kernel_rfl, fun K Q hK => ?_⟩
        simp only [putAll, Act.put, Nat.reduceAdd] at hK ⊢
        go_simp
        refine Eq.mp ?_ (hK (.pointer (some ⟨w.heap.size, 2, none⟩)) _ hJ rfl (fun _ _ _ h => h))
        kernel_rfl
      case o5b =>
        intro d us wx hd hJ hp hu hi
        have h4 : us 4 = _ := (hp 4 (by simp [Region.binds])).2
        have z0 : wx.cell? ⟨w.heap.size, 2, none⟩ = some (.int .i64 (n : Nat)) := (hJ.2.cell ⟨w.heap.size, 2, none⟩ hgl hgn).trans q2
        refine .inl ⟨by kernel_rfl, fun K Q hK => ?_⟩
        simp only [putAll, Act.put, Nat.reduceAdd, h4] at hK ⊢
        go_simp
        refine Eq.mp ?_ (hK (.int .i64 (n : Nat)) _ hJ rfl (fun _ _ _ h => h))
        kernel_rfl
      case o6b =>
        intro d us wx hd hJ hp hu hi
        have h5 : us 5 = _ := (hp 5 (by simp [Region.binds])).2
        refine .inl ⟨by kernel_rfl, fun K Q hK => ?_⟩
        simp only [putAll, Act.put, Nat.reduceAdd, h5] at hK ⊢
        go_simp
        try rw [b2]
        refine Eq.mp ?_ (hK (.int .u8 (c2.toNat : Nat)) _ hJ rfl (fun k u _ h => tauL_any k u h))
        kernel_rfl
      case o7b =>
        intro d us wx hd hJ hp hu hi
        refine .inl ⟨by kernel_rfl, fun K Q hK => ?_⟩
        simp only [putAll, Act.put, Nat.reduceAdd] at hK ⊢
        go_simp
        refine Eq.mp ?_ (hK (.pointer (some ⟨w.heap.size, 2, none⟩)) _ hJ rfl (fun _ _ _ h => h))
        kernel_rfl
      case o8b =>
        intro d us wx hd hJ hp hu hi
        have h7 : us 7 = _ := (hp 7 (by simp [Region.binds])).2
        have z0 : wx.cell? ⟨w.heap.size, 2, none⟩ = some (.int .i64 (n : Nat)) := (hJ.2.cell ⟨w.heap.size, 2, none⟩ hgl hgn).trans q2
        refine .inl ⟨by kernel_rfl, fun K Q hK => ?_⟩
        simp only [putAll, Act.put, Nat.reduceAdd, h7] at hK ⊢
        go_simp
        refine Eq.mp ?_ (hK (.int .i64 (n : Nat)) _ hJ rfl (fun _ _ _ h => h))
        kernel_rfl
      case o9b =>
        intro d us wx hd hJ hp hu hi
        have h8 : us 8 = _ := (hp 8 (by simp [Region.binds])).2
        refine .inl ⟨by kernel_rfl, fun K Q hK => ?_⟩
        simp only [putAll, Act.put, Nat.reduceAdd, h8] at hK ⊢
        go_simp
        try rw [b4]
        refine Eq.mp ?_ (hK (.int .i64 (n8 : Nat)) _ hJ rfl (fun k u _ h => tauL_any k u h))
        kernel_rfl
      case o10b =>
        intro d us wx hd hJ hp hu hi
        have h9 : us 9 = _ := (hp 9 (by simp [Region.binds])).2
        refine .inl ⟨by kernel_rfl, fun K Q hK => ?_⟩
        simp only [putAll, Act.put, Nat.reduceAdd, h9] at hK ⊢
        go_simp
        try rw [b3]
        refine Eq.mp ?_ (hK (.int .u8 (c3.toNat : Nat)) _ hJ rfl (fun k u _ h => tauL_any k u h))
        kernel_rfl
      case o11b =>
        intro d us wx hd hJ hp hu hi
        refine .inl ⟨by kernel_rfl, fun K Q hK => ?_⟩
        simp only [putAll, Act.put, Nat.reduceAdd] at hK ⊢
        go_simp
        refine Eq.mp ?_ (hK (.pointer (some ⟨g, 1, none⟩)) _ hJ rfl (fun _ _ _ h => h))
        kernel_rfl
      case o12b =>
        intro d us wx hd hJ hp hu hi
        have h11 : us 11 = _ := (hp 11 (by simp [Region.binds])).2
        have h3 : us 3 = _ := (hp 3 (by simp [Region.binds])).2
        obtain ⟨v0, hv0⟩ : ∃ v0, (set3 L c1 c2 c3 (d 12) (d 14) (d 16))[1]? = some v0 := ⟨_, List.getElem?_eq_getElem (by rw [set3_len]; omega)⟩
        have z0 := hJ.1.cell hv0
        have f0 := Blk.frozen hJ.1 1
        have l0 := hJ.1.lt
        refine .inl ⟨by kernel_rfl, fun K Q hK => ?_⟩
        simp only [putAll, Act.put, Nat.reduceAdd, h11, h3] at hK ⊢
        go_simp
        refine Eq.mp ?_ (hK (undef) (wx.setCell ⟨g, 1, none⟩ (.int .u8 (c1.toNat : Nat))) (JB.set hJ (set3_1 _ _ _ _ _ _ _)) trivial (fun k u _ h => tauL_any k u h))
        kernel_rfl
      case o13b =>
        intro d us wx hd hJ hp hu hi
        refine .inl ⟨by kernel_rfl, fun K Q hK => ?_⟩
        simp only [putAll, Act.put, Nat.reduceAdd] at hK ⊢
        go_simp
        refine Eq.mp ?_ (hK (.pointer (some ⟨g, 2, none⟩)) _ hJ rfl (fun _ _ _ h => h))
        kernel_rfl
      case o14b =>
        intro d us wx hd hJ hp hu hi
        have h13 : us 13 = _ := (hp 13 (by simp [Region.binds])).2
        have h6 : us 6 = _ := (hp 6 (by simp [Region.binds])).2
        obtain ⟨v0, hv0⟩ : ∃ v0, (set3 L c1 c2 c3 (d 12) (d 14) (d 16))[2]? = some v0 := ⟨_, List.getElem?_eq_getElem (by rw [set3_len]; omega)⟩
        have z0 := hJ.1.cell hv0
        have f0 := Blk.frozen hJ.1 2
        have l0 := hJ.1.lt
        refine .inl ⟨by kernel_rfl, fun K Q hK => ?_⟩
        simp only [putAll, Act.put, Nat.reduceAdd, h13, h6] at hK ⊢
        go_simp
        refine Eq.mp ?_ (hK (undef) (wx.setCell ⟨g, 2, none⟩ (.int .u8 (c2.toNat : Nat))) (JB.set hJ (set3_2 _ _ _ _ _ _ _)) trivial (fun k u _ h => tauL_any k u h))
        kernel_rfl
      case o15b =>
        intro d us wx hd hJ hp hu hi
        refine .inl ⟨by kernel_rfl, fun K Q hK => ?_⟩
        simp only [putAll, Act.put, Nat.reduceAdd] at hK ⊢
        go_simp
        refine Eq.mp ?_ (hK (.pointer (some ⟨g, 3, none⟩)) _ hJ rfl (fun _ _ _ h => h))
        kernel_rfl
      case o16b =>
        intro d us wx hd hJ hp hu hi
        have h15 : us 15 = _ := (hp 15 (by simp [Region.binds])).2
        have h10 : us 10 = _ := (hp 10 (by simp [Region.binds])).2
        obtain ⟨v0, hv0⟩ : ∃ v0, (set3 L c1 c2 c3 (d 12) (d 14) (d 16))[3]? = some v0 := ⟨_, List.getElem?_eq_getElem (by rw [set3_len]; omega)⟩
        have z0 := hJ.1.cell hv0
        have f0 := Blk.frozen hJ.1 3
        have l0 := hJ.1.lt
        refine .inl ⟨by kernel_rfl, fun K Q hK => ?_⟩
        simp only [putAll, Act.put, Nat.reduceAdd, h15, h10] at hK ⊢
        go_simp
        refine Eq.mp ?_ (hK (undef) (wx.setCell ⟨g, 3, none⟩ (.int .u8 (c3.toNat : Nat))) (JB.set hJ (set3_3 _ _ _ _ _ _ _)) trivial (fun k u _ h => tauL_any k u h))
        kernel_rfl
    intro d us w3 hJ hall
    have d12 := (hall 12 (by simp)).1
    have d14 := (hall 14 (by simp)).1
    have d16 := (hall 16 (by simp)).1
    rw [d12, d14, d16] at hJ
    obtain ⟨hA3, hk3⟩ := hJ
    simp only [putAll, Act.put, Nat.reduceAdd]
    clear hall d12 d14 d16
    have p3 : w3.cell? ⟨w.heap.size, 3, none⟩ = some (.string s) := (hk3.cell ⟨w.heap.size, 3, none⟩ hgl hgn).trans q3
    have hz3 := hk3.size
    have hlg3 := hA3.lt
    have hgl3 : w.heap.size < w3.heap.size := by omega
    have hB3 : Below w.heap.size w w3 := hB2.out.trans (hk3.below (B := w.heap.size) (fun k e => by rw [e]; have := hg.out; omega) (by omega))
    replace hB3 := Lib.hid hB3
    have hgn3 : ¬ g = w.heap.size := fun e => hgn e.symm
    go_simp
    go_wp2_with fail
    have hxc := @Ext.cell
    have hxf := @Ext.frozen
    refine wp_hide (fun Q0 hQ0 => ?_)
    refine wp_region_line (fun w' => ∃ x : Ext _, w' = x.w) [some false, some false, some false, none] 0 (by kernel_rfl) (by kernel_rfl) ⟨⟨_, (Below.refl _ _).drew⟩, rfl⟩ ?_
    simp only [earlyL, tailL]
    repeat (first | ((with_reducible refine wpMix_p ?_); go_big_quiet_step (fail); refine wpQuiet_nil ?_) | ((with_reducible refine wpMix_e ?_); go_big_quiet_step ((first | fail)); refine wpQuiet_nil ?_))
    refine wpMix_nil ?_
    clear hxc hxf
    intro wx hwx
    obtain ⟨x, hx⟩ := hwx
    have hb := x.below
    rw [← hx] at hb
    clear hx x
    have hA4 : ArrB wx g _ _ := Blk.below hA3 hb hA3.lt
    have hB4 := hB3.out.trans (hb.mono (by omega))
    have hz4 := hb.size
    obtain ⟨w5, hrun, hA5, hk5⟩ := hA4.copy s 4 28 28 3 (by rw [set3_len, hL32]; omega) (by omega)
    refine wpTail_step ?_
    intro Q1 hQ1
    go_wp2_with (at_builtin; refine Lib.wpList_copy_run _ rfl _ _ 97 9 rfl _ _ rfl rfl hrun ?_)
    refine hQ1 _ _ rfl (fun h => absurd h (by decide)) ?_
    clear hQ1 Q1
    refine wpTail_nil ?_
    refine hQ0 _ _ ?_
    clear hQ0 Q0
    have hlist : (set3 L c1 c2 c3 true true true).take 4 ++ s.data.toList ++ (set3 L c1 c2 c3 true true true).drop (4 + s.size) = bodyC ⟨false, true, n, s.data.toList⟩ ++ List.replicate 4 0 := by
      rw [hL.out, ← e1.out, ← e2.out, ← e3.out, ← e8.out, cel_copied 66 s n hs]
      unfold bodyC
      rw [hkind]
      rfl
    rw [hlist] at hA5
    have hB5 : Below w.heap.size w w5 := hB4.trans (hk5.below (B := w.heap.size) (fun k e => by rw [e]; have := hg.out; omega) (by omega))
    have hz5 := hk5.size
    clear hlist hrun hA4 hb hB4 hA3 hk3 p3 hA2 q2 q3 hk5
    obtain ⟨body, hbody⟩ : ∃ body, bodyC ⟨false, true, n, s.data.toList⟩ = body := ⟨_, rfl⟩
    have hbl : body.length = 28 := by rw [← hbody]; exact bodyC_len hs
    rw [hbody] at hA5
    have hmk : makeC ⟨false, true, n, s.data.toList⟩ = body ++ leL (crcL body) 4 := by unfold makeC; rw [hbody]
    replace hbody := Lib.hid hbody
    replace hmk := Lib.hid hmk
    have ht5 := hA5.text 28 32 (by simp; omega)
    rw [List.take_append_of_le_length (by omega), List.take_of_length_le (by omega)] at ht5
    have hT5 : TabAt w5 := hT.out.below hB5 hT.out.pos
    replace hB5 := Lib.hid hB5
    have hgl5 : g < w5.heap.size := hA5.lt
    clear ht5
    have ht5 := hA5.text 28 32 (by simp; omega)
    rw [List.take_append_of_le_length (by omega), List.take_of_length_le (by omega)] at ht5
    have hcrc := Crc_one (w := w5.alloc (.cells #[.string (bs body)] 9)) (hT5.below (B := w5.heap.size) ((Below.refl _ _).alloc (Nat.le_refl _) _) hT5.pos) w5.heap.size (bs body) (by simp) (by simp [go_sem]) (by rw [bs_size]; omega)
    rw [bs_data] at hcrc
    have hcl := crcL_lt body
    replace hA5 := Lib.hid hA5
    replace hcrc := Lib.hid hcrc
    go_wp2_with fail
    refine hcrc.out.mono ?_
    rintro e w6 ⟨rfl, hb6⟩
    have hb6' : Below w5.heap.size w5 w6 := ((Below.refl _ _).alloc (Nat.le_refl _) _).trans (hb6.mono (by simp))
    have hA6 : ArrB w6 g _ _ := Blk.below hA5.out hb6' hgl5
    have hz6 := hb6'.size
    have hB6 : Below w.heap.size w w6 := hB5.out.trans (hb6'.mono (by omega))
    clear hb6 hb6' ht5
    replace hB6 := Lib.hid hB6
    generalize crcL body = crc at *
    go_wp2_with fail
    go_loopw [5, 6] (fun sv iv wr => ∃ i : Nat, 28 ≤ i ∧ i ≤ 32 ∧ iv = .int .i64 (i : Nat) ∧ sv = .int .u32 (crc / 256 ^ (i - 28) : Nat) ∧ JB w6 g 247 (body ++ leL crc (i - 28) ++ List.replicate (32 - i) 0) wr) (fun _ iv _ => 32 - (intOf iv).toNat)
    case atStart => exact ⟨28, Nat.le_refl _, by decide, rfl, by simp, by simpa [leL] using hA6, KeptBut.refl _ _⟩
    case round =>
      obtain ⟨i, hi0, hi1, rfl, rfl, hJ⟩ := hrel
      have hpow : crc / 256 ^ (i - 28) < 4294967296 := Nat.lt_of_le_of_lt (Nat.div_le_self _ _) hcl
      have hnext : crc / 256 ^ (i - 28) / 256 = crc / 256 ^ (i + 1 - 28) := by rw [Nat.div_div_eq_div_mul, show i + 1 - 28 = (i - 28) + 1 from by omega, Nat.pow_succ]
      have hzr := hJ.2.size
      by_cases hlt : i < 32
      · obtain ⟨X, hX⟩ : ∃ X, crc / 256 ^ (i - 28) = X := ⟨_, rfl⟩
        obtain ⟨c, hc⟩ : ∃ c, UInt8.ofNat X = c := ⟨_, rfl⟩
        have hcw : IntKind.u8.wrap ((X : Nat) : Int) = (c.toNat : Nat) := by rw [← hc]; exact byte_of0 (X : Nat) (by omega)
        obtain ⟨Y, hY⟩ : ∃ Y, crc / 256 ^ (i + 1 - 28) = Y := ⟨_, rfl⟩
        have hXY : ((X : Nat) : Int) / 256 = (Y : Nat) := by rw [hX, hY] at hnext; omega
        have hset := hJ.set (i := i) (c := c) (le_set2 hbl crc hi0 hlt (by rw [hX]; exact hc))
        obtain ⟨v0, hv0⟩ : ∃ v0, (body ++ leL crc (i - 28) ++ List.replicate (32 - i) 0)[i]? = some v0 := ⟨_, List.getElem?_eq_getElem (by simp [leL_len]; omega)⟩
        have z0 := hJ.1.cell hv0
        have f0 := Blk.frozen hJ.1 i
        have l0 := hJ.1.lt
        rw [hX]
        replace hX := Lib.hid hX
        replace hc := Lib.hid hc
        replace hY := Lib.hid hY
        replace hnext := Lib.hid hnext
        replace hset := Lib.hid hset
        replace hJ := Lib.hid hJ
        have hlt' : (i : Int) < 32 := by omega
        clear hv0
        go_wp2_with fail
        exact ⟨⟨i + 1, by omega, by omega, by go_num, by rw [hY.out], hset.out⟩, by first | omega | (simp only [intOf]; omega)⟩
      · obtain rfl : i = 32 := by omega
        have hA7 := hJ.1
        have ht7 := hA7.text 32 32 (by simp [leL_len]; omega)
        rw [List.take_of_length_le (by simp [leL_len]; omega)] at ht7
        have hfin : body ++ leL crc (32 - 28) ++ List.replicate (32 - 32) 0 = makeC ⟨false, true, n, s.data.toList⟩ := by rw [hmk.out]; simp
        rw [hfin] at ht7
        have hB7 : Below w.heap.size w wr := hB6.out.trans (hJ.2.below (B := w.heap.size) (fun k e => by rw [e]; have := hg.out; omega) (by omega))
        generalize crc / 256 ^ (32 - 28) = X at *
        replace hfin := Lib.hid hfin
        replace hJ := Lib.hid hJ
        replace hB7 := Lib.hid hB7
        clear hA7 hnext
        go_wp2_with fail
        go_ret2
        exact ⟨rfl, hB7.out⟩
  · have hkind : kindC ⟨true, false, n, s.data.toList⟩ = 65 := by unfold kindC; rfl
    go_enter Tryz.func141, Tryz.ntmps141
    go_wp2_with fail
    refine (hmay.out _).mono ?_
    rintro e w1 ⟨rfl, hb1⟩
    have q0 : w1.cell? ⟨w.heap.size, 0, none⟩ = some (.bool true) := (hb1.cell (p := ⟨w.heap.size, 0, none⟩) (by simp)).trans (by simp [go_sem])
    have q1 : w1.cell? ⟨w.heap.size, 1, none⟩ = some (.bool false) := (hb1.cell (p := ⟨w.heap.size, 1, none⟩) (by simp)).trans (by simp [go_sem])
    have q2 : w1.cell? ⟨w.heap.size, 2, none⟩ = some (.int .i64 (n : Nat)) := (hb1.cell (p := ⟨w.heap.size, 2, none⟩) (by simp)).trans (by simp [go_sem])
    have q3 : w1.cell? ⟨w.heap.size, 3, none⟩ = some (.string s) := (hb1.cell (p := ⟨w.heap.size, 3, none⟩) (by simp)).trans (by simp [go_sem])
    have hb : Below w.heap.size w w1 := ((Below.refl _ _).alloc (Nat.le_refl _) _).trans (hb1.mono (by simp))
    have hz1 := hb1.size
    simp at hz1
    have hgl1 : w.heap.size < w1.heap.size := by omega
    have hgn1 : ¬ w.heap.size = w1.heap.size := by omega
    have hgn2 : ¬ w1.heap.size = w.heap.size := by omega
    have hT1 : TabAt w1 := hT.out.below hb hT.out.pos
    replace hT1 := Lib.hid hT1
    replace hb := Lib.hid hb
    clear hb1
    go_wp2_with fail
    obtain ⟨g, hg⟩ : ∃ g, g = w1.heap.size := ⟨_, rfl⟩
    have hA2 : ArrB (w1.alloc (.cells #[.int .u8 65, .int .u8 0, .int .u8 0, .int .u8 0, .int .u8 0, .int .u8 0, .int .u8 0, .int .u8 0, .int .u8 0, .int .u8 0, .int .u8 0, .int .u8 0, .int .u8 0, .int .u8 0, .int .u8 0, .int .u8 0, .int .u8 0, .int .u8 0, .int .u8 0, .int .u8 0, .int .u8 0, .int .u8 0, .int .u8 0, .int .u8 0, .int .u8 0, .int .u8 0, .int .u8 0, .int .u8 0, .int .u8 0, .int .u8 0, .int .u8 0, .int .u8 0] 247)) w1.heap.size 247 (65 :: List.replicate 31 0) := Blk.new _ _ _
    have r2 : (w1.alloc (.cells #[.int .u8 65, .int .u8 0, .int .u8 0, .int .u8 0, .int .u8 0, .int .u8 0, .int .u8 0, .int .u8 0, .int .u8 0, .int .u8 0, .int .u8 0, .int .u8 0, .int .u8 0, .int .u8 0, .int .u8 0, .int .u8 0, .int .u8 0, .int .u8 0, .int .u8 0, .int .u8 0, .int .u8 0, .int .u8 0, .int .u8 0, .int .u8 0, .int .u8 0, .int .u8 0, .int .u8 0, .int .u8 0, .int .u8 0, .int .u8 0, .int .u8 0, .int .u8 0] 247)).cell? ⟨w.heap.size, 2, none⟩ = some (.int .i64 (n : Nat)) := (World.cell?_alloc_lt _ _ _ (by simp; omega)).trans q2
    have r3 : (w1.alloc (.cells #[.int .u8 65, .int .u8 0, .int .u8 0, .int .u8 0, .int .u8 0, .int .u8 0, .int .u8 0, .int .u8 0, .int .u8 0, .int .u8 0, .int .u8 0, .int .u8 0, .int .u8 0, .int .u8 0, .int .u8 0, .int .u8 0, .int .u8 0, .int .u8 0, .int .u8 0, .int .u8 0, .int .u8 0, .int .u8 0, .int .u8 0, .int .u8 0, .int .u8 0, .int .u8 0, .int .u8 0, .int .u8 0, .int .u8 0, .int .u8 0, .int .u8 0, .int .u8 0] 247)).cell? ⟨w.heap.size, 3, none⟩ = some (.string s) := (World.cell?_alloc_lt _ _ _ (by simp; omega)).trans q3
    have hB2 : Below w.heap.size w (w1.alloc (.cells #[.int .u8 65, .int .u8 0, .int .u8 0, .int .u8 0, .int .u8 0, .int .u8 0, .int .u8 0, .int .u8 0, .int .u8 0, .int .u8 0, .int .u8 0, .int .u8 0, .int .u8 0, .int .u8 0, .int .u8 0, .int .u8 0, .int .u8 0, .int .u8 0, .int .u8 0, .int .u8 0, .int .u8 0, .int .u8 0, .int .u8 0, .int .u8 0, .int .u8 0, .int .u8 0, .int .u8 0, .int .u8 0, .int .u8 0, .int .u8 0, .int .u8 0, .int .u8 0] 247)) := hb.out.alloc (by omega) _
    have hz2 : (w1.alloc (.cells #[.int .u8 65, .int .u8 0, .int .u8 0, .int .u8 0, .int .u8 0, .int .u8 0, .int .u8 0, .int .u8 0, .int .u8 0, .int .u8 0, .int .u8 0, .int .u8 0, .int .u8 0, .int .u8 0, .int .u8 0, .int .u8 0, .int .u8 0, .int .u8 0, .int .u8 0, .int .u8 0, .int .u8 0, .int .u8 0, .int .u8 0, .int .u8 0, .int .u8 0, .int .u8 0, .int .u8 0, .int .u8 0, .int .u8 0, .int .u8 0, .int .u8 0, .int .u8 0] 247)).heap.size = w1.heap.size + 1 := by simp
    rw [← hg] at hA2 hz2
    have hgn : ¬ w.heap.size = g := by omega
    clear q0 q1 q2 q3
    generalize w1.alloc (.cells #[.int .u8 65, .int .u8 0, .int .u8 0, .int .u8 0, .int .u8 0, .int .u8 0, .int .u8 0, .int .u8 0, .int .u8 0, .int .u8 0, .int .u8 0, .int .u8 0, .int .u8 0, .int .u8 0, .int .u8 0, .int .u8 0, .int .u8 0, .int .u8 0, .int .u8 0, .int .u8 0, .int .u8 0, .int .u8 0, .int .u8 0, .int .u8 0, .int .u8 0, .int .u8 0, .int .u8 0, .int .u8 0, .int .u8 0, .int .u8 0, .int .u8 0, .int .u8 0] 247) = w2 at *
    rw [← hg]
    have q2 := r2
    have q3 := r3
    have hgl : w.heap.size < w2.heap.size := by omega
    obtain ⟨L, hL⟩ : ∃ L : List UInt8, L = 65 :: List.replicate 31 0 := ⟨_, rfl⟩
    have hL32 : L.length = 32 := by rw [hL]; rfl
    rw [← hL] at hA2
    replace hg := Lib.hid hg
    replace hL := Lib.hid hL
    replace hB2 := Lib.hid hB2
    clear r2 r3 hb
    refine wp_region_task (fun d w' => JB w2 g 247 (set3 L c1 c2 c3 (d 12) (d 14) (d 16)) w') (tauL [some (.pointer (some ⟨w.heap.size, 3, none⟩)), some (.string s), some (.int .i64 (s.size : Nat)), some (.int .u8 (c1.toNat : Nat)), some (.pointer (some ⟨w.heap.size, 2, none⟩)), some (.int .i64 (n : Nat)), some (.int .u8 (c2.toNat : Nat)), some (.pointer (some ⟨w.heap.size, 2, none⟩)), some (.int .i64 (n : Nat)), some (.int .i64 (n8 : Nat)), some (.int .u8 (c3.toNat : Nat)), some (.pointer (some ⟨g, 1, none⟩)), none, some (.pointer (some ⟨g, 2, none⟩)), none, some (.pointer (some ⟨g, 3, none⟩)), none] tauN) (usC (List.replicate 17 undef)) ?m1c ?m2c ?m3c ?m4c ⟨hA2, (KeptBut.refl _ _).drew⟩ ?m5c ?m6c
    case m1c => kernel_rfl
    case m2c => kernel_rfl
    case m3c => kernel_rfl
    case m4c => kernel_rfl
    case m5c =>
      refine ⟨?o0c, ?o1c, ?o2c, ?o3c, ?o4c, ?o5c, ?o6c, ?o7c, ?o8c, ?o9c, ?o10c, ?o11c, ?o12c, ?o13c, ?o14c, ?o15c, ?o16c, trivial⟩
      case o0c =>
        intro d us wx hd hJ hp hu hi
        refine .inl ⟨by kernel_rfl, fun K Q hK => ?_⟩
        simp only [putAll, Act.put, Nat.reduceAdd] at hK ⊢
        go_simp
        refine Eq.mp ?_ (hK (.pointer (some ⟨w.heap.size, 3, none⟩)) _ hJ rfl (fun _ _ _ h => h))
        kernel_rfl
      case o1c =>
        intro d us wx hd hJ hp hu hi
        have h0 : us 0 = _ := (hp 0 (by simp [Region.binds])).2
        have z0 : wx.cell? ⟨w.heap.size, 3, none⟩ = some (.string s) := (hJ.2.cell ⟨w.heap.size, 3, none⟩ hgl hgn).trans q3
        refine .inl ⟨by kernel_rfl, fun K Q hK => ?_⟩
        simp only [putAll, Act.put, Nat.reduceAdd, h0] at hK ⊢
        go_simp
        refine Eq.mp ?_ (hK (.string s) _ hJ rfl (fun _ _ _ h => h))
        kernel_rfl
      case o2c =>
        intro d us wx hd hJ hp hu hi
        have h1 : us 1 = _ := (hp 1 (by simp [Region.binds])).2
        refine .inl ⟨by kernel_rfl, fun K Q hK => ?_⟩
        simp only [putAll, Act.put, Nat.reduceAdd, h1] at hK ⊢
        go_simp
        refine Eq.mp ?_ (hK (.int .i64 (s.size : Nat)) _ hJ rfl (fun _ _ _ h => h))
        kernel_rfl
      case o3c =>
        intro d us wx hd hJ hp hu hi
        have h2 : us 2 = _ := (hp 2 (by simp [Region.binds])).2
        refine .inl ⟨by kernel_rfl, fun K Q hK => ?_⟩
        simp only [putAll, Act.put, Nat.reduceAdd, h2] at hK ⊢
        go_simp
        try rw [b1]
        refine Eq.mp ?_ (hK (.int .u8 (c1.toNat : Nat)) _ hJ rfl (fun k u _ h => tauL_any k u h))
        kernel_rfl
      case o4c =>
        intro d us wx hd hJ hp hu hi
        refine .inl ⟨by kernel_rfl, fun K Q hK => ?_⟩
        simp only [putAll, Act.put, Nat.reduceAdd] at hK ⊢
        go_simp
        refine Eq.mp ?_ (hK (.pointer (some ⟨w.heap.size, 2, none⟩)) _ hJ rfl (fun _ _ _ h => h))
        kernel_rfl
      case o5c =>
        intro d us wx hd hJ hp hu hi
        have h4 : us 4 = _ := (hp 4 (by simp [Region.binds])).2
        have z0 : wx.cell? ⟨w.heap.size, 2, none⟩ = some (.int .i64 (n : Nat)) := (hJ.2.cell ⟨w.heap.size, 2, none⟩ hgl hgn).trans q2
        refine .inl ⟨by kernel_rfl, fun K Q hK => ?_⟩
        simp only [putAll, Act.put, Nat.reduceAdd, h4] at hK ⊢
        go_simp
        refine Eq.mp ?_ (hK (.int .i64 (n : Nat)) _ hJ rfl (fun _ _ _ h => h))
        kernel_rfl
      case o6c =>
        intro d us wx hd hJ hp hu hi
        have h5 : us 5 = _ := (hp 5 (by simp [Region.binds])).2
        refine .inl ⟨by kernel_rfl, fun K Q hK => ?_⟩
        simp only [putAll, Act.put, Nat.reduceAdd, h5] at hK ⊢
        go_simp
        try rw [b2]
        refine Eq.mp ?_ (hK (.int .u8 (c2.toNat : Nat)) _ hJ rfl (fun k u _ h => tauL_any k u h))
        kernel_rfl
      case o7c =>
        intro d us wx hd hJ hp hu hi
        refine .inl ⟨by kernel_rfl, fun K Q hK => ?_⟩
        simp only [putAll, Act.put, Nat.reduceAdd] at hK ⊢
        go_simp
        refine Eq.mp ?_ (hK (.pointer (some ⟨w.heap.size, 2, none⟩)) _ hJ rfl (fun _ _ _ h => h))
        kernel_rfl
      case o8c =>
        intro d us wx hd hJ hp hu hi
        have h7 : us 7 = _ := (hp 7 (by simp [Region.binds])).2
        have z0 : wx.cell? ⟨w.heap.size, 2, none⟩ = some (.int .i64 (n : Nat)) := (hJ.2.cell ⟨w.heap.size, 2, none⟩ hgl hgn).trans q2
        refine .inl ⟨by kernel_rfl, fun K Q hK => ?_⟩
        simp only [putAll, Act.put, Nat.reduceAdd, h7] at hK ⊢
        go_simp
        refine Eq.mp ?_ (hK (.int .i64 (n : Nat)) _ hJ rfl (fun _ _ _ h => h))
        kernel_rfl
      case o9c =>
        intro d us wx hd hJ hp hu hi
        have h8 : us 8 = _ := (hp 8 (by simp [Region.binds])).2
        refine .inl ⟨by kernel_rfl, fun K Q hK => ?_⟩
        simp only [putAll, Act.put, Nat.reduceAdd, h8] at hK ⊢
        go_simp
        try rw [b4]
        refine Eq.mp ?_ (hK (.int .i64 (n8 : Nat)) _ hJ rfl (fun k u _ h => tauL_any k u h))
        kernel_rfl
      case o10c =>
        intro d us wx hd hJ hp hu hi
        have h9 : us 9 = _ := (hp 9 (by simp [Region.binds])).2
        refine .inl ⟨by kernel_rfl, fun K Q hK => ?_⟩
        simp only [putAll, Act.put, Nat.reduceAdd, h9] at hK ⊢
        go_simp
        try rw [b3]
        refine Eq.mp ?_ (hK (.int .u8 (c3.toNat : Nat)) _ hJ rfl (fun k u _ h => tauL_any k u h))
        kernel_rfl
      case o11c =>
        intro d us wx hd hJ hp hu hi
        refine .inl ⟨by kernel_rfl, fun K Q hK => ?_⟩
        simp only [putAll, Act.put, Nat.reduceAdd] at hK ⊢
        go_simp
        refine Eq.mp ?_ (hK (.pointer (some ⟨g, 1, none⟩)) _ hJ rfl (fun _ _ _ h => h))
        kernel_rfl
      case o12c =>
        intro d us wx hd hJ hp hu hi
        have h11 : us 11 = _ := (hp 11 (by simp [Region.binds])).2
        have h3 : us 3 = _ := (hp 3 (by simp [Region.binds])).2
        obtain ⟨v0, hv0⟩ : ∃ v0, (set3 L c1 c2 c3 (d 12) (d 14) (d 16))[1]? = some v0 := ⟨_, List.getElem?_eq_getElem (by rw [set3_len]; omega)⟩
        have z0 := hJ.1.cell hv0
        have f0 := Blk.frozen hJ.1 1
        have l0 := hJ.1.lt
        refine .inl ⟨by kernel_rfl, fun K Q hK => ?_⟩
        simp only [putAll, Act.put, Nat.reduceAdd, h11, h3] at hK ⊢
        go_simp
        refine Eq.mp ?_ (hK (undef) (wx.setCell ⟨g, 1, none⟩ (.int .u8 (c1.toNat : Nat))) (JB.set hJ (set3_1 _ _ _ _ _ _ _)) trivial (fun k u _ h => tauL_any k u h))
        kernel_rfl
      case o13c =>
        intro d us wx hd hJ hp hu hi
        refine .inl ⟨by kernel_rfl, fun K Q hK => ?_⟩
        simp only [putAll, Act.put, Nat.reduceAdd] at hK ⊢
        go_simp
        refine Eq.mp ?_ (hK (.pointer (some ⟨g, 2, none⟩)) _ hJ rfl (fun _ _ _ h => h))
        kernel_rfl
      case o14c =>
        intro d us wx hd hJ hp hu hi
        have h13 : us 13 = _ := (hp 13 (by simp [Region.binds])).2
        have h6 : us 6 = _ := (hp 6 (by simp [Region.binds])).2
        obtain ⟨v0, hv0⟩ : ∃ v0, (set3 L c1 c2 c3 (d 12) (d 14) (d 16))[2]? = some v0 := ⟨_, List.getElem?_eq_getElem (by rw [set3_len]; omega)⟩
        have z0 := hJ.1.cell hv0
        have f0 := Blk.frozen hJ.1 2
        have l0 := hJ.1.lt
        refine .inl ⟨by kernel_rfl, fun K Q hK => ?_⟩
        simp only [putAll, Act.put, Nat.reduceAdd, h13, h6] at hK ⊢
        go_simp
        refine Eq.mp ?_ (hK (undef) (wx.setCell ⟨g, 2, none⟩ (.int .u8 (c2.toNat : Nat))) (JB.set hJ (set3_2 _ _ _ _ _ _ _)) trivial (fun k u _ h => tauL_any k u h))
        kernel_rfl
      case o15c =>
        intro d us wx hd hJ hp hu hi
        refine .inl ⟨by kernel_rfl, fun K Q hK => ?_⟩
        simp only [putAll, Act.put, Nat.reduceAdd] at hK ⊢
        go_simp
        refine Eq.mp ?_ (hK (.pointer (some ⟨g, 3, none⟩)) _ hJ rfl (fun _ _ _ h => h))
        kernel_rfl
      case o16c =>
        intro d us wx hd hJ hp hu hi
        have h15 : us 15 = _ := (hp 15 (by simp [Region.binds])).2
        have h10 : us 10 = _ := (hp 10 (by simp [Region.binds])).2
        obtain ⟨v0, hv0⟩ : ∃ v0, (set3 L c1 c2 c3 (d 12) (d 14) (d 16))[3]? = some v0 := ⟨_, List.getElem?_eq_getElem (by rw [set3_len]; omega)⟩
        have z0 := hJ.1.cell hv0
        have f0 := Blk.frozen hJ.1 3
        have l0 := hJ.1.lt
        refine .inl ⟨by kernel_rfl, fun K Q hK => ?_⟩
        simp only [putAll, Act.put, Nat.reduceAdd, h15, h10] at hK ⊢
        go_simp
        refine Eq.mp ?_ (hK (undef) (wx.setCell ⟨g, 3, none⟩ (.int .u8 (c3.toNat : Nat))) (JB.set hJ (set3_3 _ _ _ _ _ _ _)) trivial (fun k u _ h => tauL_any k u h))
        kernel_rfl
    intro d us w3 hJ hall
    have d12 := (hall 12 (by simp)).1
    have d14 := (hall 14 (by simp)).1
    have d16 := (hall 16 (by simp)).1
    rw [d12, d14, d16] at hJ
    obtain ⟨hA3, hk3⟩ := hJ
    simp only [putAll, Act.put, Nat.reduceAdd]
    clear hall d12 d14 d16
    have p3 : w3.cell? ⟨w.heap.size, 3, none⟩ = some (.string s) := (hk3.cell ⟨w.heap.size, 3, none⟩ hgl hgn).trans q3
    have hz3 := hk3.size
    have hlg3 := hA3.lt
    have hgl3 : w.heap.size < w3.heap.size := by omega
    have hB3 : Below w.heap.size w w3 := hB2.out.trans (hk3.below (B := w.heap.size) (fun k e => by rw [e]; have := hg.out; omega) (by omega))
    replace hB3 := Lib.hid hB3
    have hgn3 : ¬ g = w.heap.size := fun e => hgn e.symm
    go_simp
    go_wp2_with fail
    have hxc := @Ext.cell
    have hxf := @Ext.frozen
    refine wp_hide (fun Q0 hQ0 => ?_)
    refine wp_region_line (fun w' => ∃ x : Ext _, w' = x.w) [some false, some false, some false, none] 0 (by kernel_rfl) (by kernel_rfl) ⟨⟨_, (Below.refl _ _).drew⟩, rfl⟩ ?_
    simp only [earlyL, tailL]
    repeat (first | ((with_reducible refine wpMix_p ?_); go_big_quiet_step (fail); refine wpQuiet_nil ?_) | ((with_reducible refine wpMix_e ?_); go_big_quiet_step ((first | fail)); refine wpQuiet_nil ?_))
    refine wpMix_nil ?_
    clear hxc hxf
    intro wx hwx
    obtain ⟨x, hx⟩ := hwx
    have hb := x.below
    rw [← hx] at hb
    clear hx x
    have hA4 : ArrB wx g _ _ := Blk.below hA3 hb hA3.lt
    have hB4 := hB3.out.trans (hb.mono (by omega))
    have hz4 := hb.size
    obtain ⟨w5, hrun, hA5, hk5⟩ := hA4.copy s 4 28 28 3 (by rw [set3_len, hL32]; omega) (by omega)
    refine wpTail_step ?_
    intro Q1 hQ1
    go_wp2_with (at_builtin; refine Lib.wpList_copy_run _ rfl _ _ 97 9 rfl _ _ rfl rfl hrun ?_)
    refine hQ1 _ _ rfl (fun h => absurd h (by decide)) ?_
    clear hQ1 Q1
    refine wpTail_nil ?_
    refine hQ0 _ _ ?_
    clear hQ0 Q0
    have hlist : (set3 L c1 c2 c3 true true true).take 4 ++ s.data.toList ++ (set3 L c1 c2 c3 true true true).drop (4 + s.size) = bodyC ⟨true, false, n, s.data.toList⟩ ++ List.replicate 4 0 := by
      rw [hL.out, ← e1.out, ← e2.out, ← e3.out, ← e8.out, cel_copied 65 s n hs]
      unfold bodyC
      rw [hkind]
      rfl
    rw [hlist] at hA5
    have hB5 : Below w.heap.size w w5 := hB4.trans (hk5.below (B := w.heap.size) (fun k e => by rw [e]; have := hg.out; omega) (by omega))
    have hz5 := hk5.size
    clear hlist hrun hA4 hb hB4 hA3 hk3 p3 hA2 q2 q3 hk5
    obtain ⟨body, hbody⟩ : ∃ body, bodyC ⟨true, false, n, s.data.toList⟩ = body := ⟨_, rfl⟩
    have hbl : body.length = 28 := by rw [← hbody]; exact bodyC_len hs
    rw [hbody] at hA5
    have hmk : makeC ⟨true, false, n, s.data.toList⟩ = body ++ leL (crcL body) 4 := by unfold makeC; rw [hbody]
    replace hbody := Lib.hid hbody
    replace hmk := Lib.hid hmk
    have ht5 := hA5.text 28 32 (by simp; omega)
    rw [List.take_append_of_le_length (by omega), List.take_of_length_le (by omega)] at ht5
    have hT5 : TabAt w5 := hT.out.below hB5 hT.out.pos
    replace hB5 := Lib.hid hB5
    have hgl5 : g < w5.heap.size := hA5.lt
    clear ht5
    have ht5 := hA5.text 28 32 (by simp; omega)
    rw [List.take_append_of_le_length (by omega), List.take_of_length_le (by omega)] at ht5
    have hcrc := Crc_one (w := w5.alloc (.cells #[.string (bs body)] 9)) (hT5.below (B := w5.heap.size) ((Below.refl _ _).alloc (Nat.le_refl _) _) hT5.pos) w5.heap.size (bs body) (by simp) (by simp [go_sem]) (by rw [bs_size]; omega)
    rw [bs_data] at hcrc
    have hcl := crcL_lt body
    replace hA5 := Lib.hid hA5
    replace hcrc := Lib.hid hcrc
    go_wp2_with fail
    refine hcrc.out.mono ?_
    rintro e w6 ⟨rfl, hb6⟩
    have hb6' : Below w5.heap.size w5 w6 := ((Below.refl _ _).alloc (Nat.le_refl _) _).trans (hb6.mono (by simp))
    have hA6 : ArrB w6 g _ _ := Blk.below hA5.out hb6' hgl5
    have hz6 := hb6'.size
    have hB6 : Below w.heap.size w w6 := hB5.out.trans (hb6'.mono (by omega))
    clear hb6 hb6' ht5
    replace hB6 := Lib.hid hB6
    generalize crcL body = crc at *
    go_wp2_with fail
    go_loopw [5, 6] (fun sv iv wr => ∃ i : Nat, 28 ≤ i ∧ i ≤ 32 ∧ iv = .int .i64 (i : Nat) ∧ sv = .int .u32 (crc / 256 ^ (i - 28) : Nat) ∧ JB w6 g 247 (body ++ leL crc (i - 28) ++ List.replicate (32 - i) 0) wr) (fun _ iv _ => 32 - (intOf iv).toNat)
    case atStart => exact ⟨28, Nat.le_refl _, by decide, rfl, by simp, by simpa [leL] using hA6, KeptBut.refl _ _⟩
    case round =>
      obtain ⟨i, hi0, hi1, rfl, rfl, hJ⟩ := hrel
      have hpow : crc / 256 ^ (i - 28) < 4294967296 := Nat.lt_of_le_of_lt (Nat.div_le_self _ _) hcl
      have hnext : crc / 256 ^ (i - 28) / 256 = crc / 256 ^ (i + 1 - 28) := by rw [Nat.div_div_eq_div_mul, show i + 1 - 28 = (i - 28) + 1 from by omega, Nat.pow_succ]
      have hzr := hJ.2.size
      by_cases hlt : i < 32
      · obtain ⟨X, hX⟩ : ∃ X, crc / 256 ^ (i - 28) = X := ⟨_, rfl⟩
        obtain ⟨c, hc⟩ : ∃ c, UInt8.ofNat X = c := ⟨_, rfl⟩
        have hcw : IntKind.u8.wrap ((X : Nat) : Int) = (c.toNat : Nat) := by rw [← hc]; exact byte_of0 (X : Nat) (by omega)
        obtain ⟨Y, hY⟩ : ∃ Y, crc / 256 ^ (i + 1 - 28) = Y := ⟨_, rfl⟩
        have hXY : ((X : Nat) : Int) / 256 = (Y : Nat) := by rw [hX, hY] at hnext; omega
        have hset := hJ.set (i := i) (c := c) (le_set2 hbl crc hi0 hlt (by rw [hX]; exact hc))
        obtain ⟨v0, hv0⟩ : ∃ v0, (body ++ leL crc (i - 28) ++ List.replicate (32 - i) 0)[i]? = some v0 := ⟨_, List.getElem?_eq_getElem (by simp [leL_len]; omega)⟩
        have z0 := hJ.1.cell hv0
        have f0 := Blk.frozen hJ.1 i
        have l0 := hJ.1.lt
        rw [hX]
        replace hX := Lib.hid hX
        replace hc := Lib.hid hc
        replace hY := Lib.hid hY
        replace hnext := Lib.hid hnext
        replace hset := Lib.hid hset
        replace hJ := Lib.hid hJ
        have hlt' : (i : Int) < 32 := by omega
        clear hv0
        go_wp2_with fail
        exact ⟨⟨i + 1, by omega, by omega, by go_num, by rw [hY.out], hset.out⟩, by first | omega | (simp only [intOf]; omega)⟩
      · obtain rfl : i = 32 := by omega
        have hA7 := hJ.1
        have ht7 := hA7.text 32 32 (by simp [leL_len]; omega)
        rw [List.take_of_length_le (by simp [leL_len]; omega)] at ht7
        have hfin : body ++ leL crc (32 - 28) ++ List.replicate (32 - 32) 0 = makeC ⟨true, false, n, s.data.toList⟩ := by rw [hmk.out]; simp
        rw [hfin] at ht7
        have hB7 : Below w.heap.size w wr := hB6.out.trans (hJ.2.below (B := w.heap.size) (fun k e => by rw [e]; have := hg.out; omega) (by omega))
        generalize crc / 256 ^ (32 - 28) = X at *
        replace hfin := Lib.hid hfin
        replace hJ := Lib.hid hJ
        replace hB7 := Lib.hid hB7
        clear hA7 hnext
        go_wp2_with fail
        go_ret2
        exact ⟨rfl, hB7.out⟩
  · have hkind : kindC ⟨true, true, n, s.data.toList⟩ = 67 := by unfold kindC; rfl
    go_enter Tryz.func141, Tryz.ntmps141
    go_wp2_with fail
    refine (hmay.out _).mono ?_
    rintro e w1 ⟨rfl, hb1⟩
    have q0 : w1.cell? ⟨w.heap.size, 0, none⟩ = some (.bool true) := (hb1.cell (p := ⟨w.heap.size, 0, none⟩) (by simp)).trans (by simp [go_sem])
    have q1 : w1.cell? ⟨w.heap.size, 1, none⟩ = some (.bool true) := (hb1.cell (p := ⟨w.heap.size, 1, none⟩) (by simp)).trans (by simp [go_sem])
    have q2 : w1.cell? ⟨w.heap.size, 2, none⟩ = some (.int .i64 (n : Nat)) := (hb1.cell (p := ⟨w.heap.size, 2, none⟩) (by simp)).trans (by simp [go_sem])
    have q3 : w1.cell? ⟨w.heap.size, 3, none⟩ = some (.string s) := (hb1.cell (p := ⟨w.heap.size, 3, none⟩) (by simp)).trans (by simp [go_sem])
    have hb : Below w.heap.size w w1 := ((Below.refl _ _).alloc (Nat.le_refl _) _).trans (hb1.mono (by simp))
    have hz1 := hb1.size
    simp at hz1
    have hgl1 : w.heap.size < w1.heap.size := by omega
    have hgn1 : ¬ w.heap.size = w1.heap.size := by omega
    have hgn2 : ¬ w1.heap.size = w.heap.size := by omega
    have hT1 : TabAt w1 := hT.out.below hb hT.out.pos
    replace hT1 := Lib.hid hT1
    replace hb := Lib.hid hb
    clear hb1
    go_wp2_with fail
    obtain ⟨g, hg⟩ : ∃ g, g = w1.heap.size := ⟨_, rfl⟩
    have hA2 : ArrB (w1.alloc (.cells #[.int .u8 67, .int .u8 0, .int .u8 0, .int .u8 0, .int .u8 0, .int .u8 0, .int .u8 0, .int .u8 0, .int .u8 0, .int .u8 0, .int .u8 0, .int .u8 0, .int .u8 0, .int .u8 0, .int .u8 0, .int .u8 0, .int .u8 0, .int .u8 0, .int .u8 0, .int .u8 0, .int .u8 0, .int .u8 0, .int .u8 0, .int .u8 0, .int .u8 0, .int .u8 0, .int .u8 0, .int .u8 0, .int .u8 0, .int .u8 0, .int .u8 0, .int .u8 0] 247)) w1.heap.size 247 (67 :: List.replicate 31 0) := Blk.new _ _ _
    have r2 : (w1.alloc (.cells #[.int .u8 67, .int .u8 0, .int .u8 0, .int .u8 0, .int .u8 0, .int .u8 0, .int .u8 0, .int .u8 0, .int .u8 0, .int .u8 0, .int .u8 0, .int .u8 0, .int .u8 0, .int .u8 0, .int .u8 0, .int .u8 0, .int .u8 0, .int .u8 0, .int .u8 0, .int .u8 0, .int .u8 0, .int .u8 0, .int .u8 0, .int .u8 0, .int .u8 0, .int .u8 0, .int .u8 0, .int .u8 0, .int .u8 0, .int .u8 0, .int .u8 0, .int .u8 0] 247)).cell? ⟨w.heap.size, 2, none⟩ = some (.int .i64 (n : Nat)) := (World.cell?_alloc_lt _ _ _ (by simp; omega)).trans q2
    have r3 : (w1.alloc (.cells #[.int .u8 67, .int .u8 0, .int .u8 0, .int .u8 0, .int .u8 0, .int .u8 0, .int .u8 0, .int .u8 0, .int .u8 0, .int .u8 0, .int .u8 0, .int .u8 0, .int .u8 0, .int .u8 0, .int .u8 0, .int .u8 0, .int .u8 0, .int .u8 0, .int .u8 0, .int .u8 0, .int .u8 0, .int .u8 0, .int .u8 0, .int .u8 0, .int .u8 0, .int .u8 0, .int .u8 0, .int .u8 0, .int .u8 0, .int .u8 0, .int .u8 0, .int .u8 0] 247)).cell? ⟨w.heap.size, 3, none⟩ = some (.string s) := (World.cell?_alloc_lt _ _ _ (by simp; omega)).trans q3
    have hB2 : Below w.heap.size w (w1.alloc (.cells #[.int .u8 67, .int .u8 0, .int .u8 0, .int .u8 0, .int .u8 0, .int .u8 0, .int .u8 0, .int .u8 0, .int .u8 0, .int .u8 0, .int .u8 0, .int .u8 0, .int .u8 0, .int .u8 0, .int .u8 0, .int .u8 0, .int .u8 0, .int .u8 0, .int .u8 0, .int .u8 0, .int .u8 0, .int .u8 0, .int .u8 0, .int .u8 0, .int .u8 0, .int .u8 0, .int .u8 0, .int .u8 0, .int .u8 0, .int .u8 0, .int .u8 0, .int .u8 0] 247)) := hb.out.alloc (by omega) _
    have hz2 : (w1.alloc (.cells #[.int .u8 67, .int .u8 0, .int .u8 0, .int .u8 0, .int .u8 0, .int .u8 0, .int .u8 0, .int .u8 0, .int .u8 0, .int .u8 0, .int .u8 0, .int .u8 0, .int .u8 0, .int .u8 0, .int .u8 0, .int .u8 0, .int .u8 0, .int .u8 0, .int .u8 0, .int .u8 0, .int .u8 0, .int .u8 0, .int .u8 0, .int .u8 0, .int .u8 0, .int .u8 0, .int .u8 0, .int .u8 0, .int .u8 0, .int .u8 0, .int .u8 0, .int .u8 0] 247)).heap.size = w1.heap.size + 1 := by simp
    rw [← hg] at hA2 hz2
    have hgn : ¬ w.heap.size = g := by omega
    clear q0 q1 q2 q3
    generalize w1.alloc (.cells #[.int .u8 67, .int .u8 0, .int .u8 0, .int .u8 0, .int .u8 0, .int .u8 0, .int .u8 0, .int .u8 0, .int .u8 0, .int .u8 0, .int .u8 0, .int .u8 0, .int .u8 0, .int .u8 0, .int .u8 0, .int .u8 0, .int .u8 0, .int .u8 0, .int .u8 0, .int .u8 0, .int .u8 0, .int .u8 0, .int .u8 0, .int .u8 0, .int .u8 0, .int .u8 0, .int .u8 0, .int .u8 0, .int .u8 0, .int .u8 0, .int .u8 0, .int .u8 0] 247) = w2 at *
    rw [← hg]
    have q2 := r2
    have q3 := r3
    have hgl : w.heap.size < w2.heap.size := by omega
    obtain ⟨L, hL⟩ : ∃ L : List UInt8, L = 67 :: List.replicate 31 0 := ⟨_, rfl⟩
    have hL32 : L.length = 32 := by rw [hL]; rfl
    rw [← hL] at hA2
    replace hg := Lib.hid hg
    replace hL := Lib.hid hL
    replace hB2 := Lib.hid hB2
    clear r2 r3 hb
    refine wp_region_task (fun d w' => JB w2 g 247 (set3 L c1 c2 c3 (d 12) (d 14) (d 16)) w') (tauL [some (.pointer (some ⟨w.heap.size, 3, none⟩)), some (.string s), some (.int .i64 (s.size : Nat)), some (.int .u8 (c1.toNat : Nat)), some (.pointer (some ⟨w.heap.size, 2, none⟩)), some (.int .i64 (n : Nat)), some (.int .u8 (c2.toNat : Nat)), some (.pointer (some ⟨w.heap.size, 2, none⟩)), some (.int .i64 (n : Nat)), some (.int .i64 (n8 : Nat)), some (.int .u8 (c3.toNat : Nat)), some (.pointer (some ⟨g, 1, none⟩)), none, some (.pointer (some ⟨g, 2, none⟩)), none, some (.pointer (some ⟨g, 3, none⟩)), none] tauN) (usC (List.replicate 17 undef)) ?m1d ?m2d ?m3d ?m4d ⟨hA2, (KeptBut.refl _ _).drew⟩ ?m5d ?m6d
    case m1d => kernel_rfl
    case m2d => kernel_rfl
    case m3d => kernel_rfl
    case m4d => kernel_rfl
    case m5d =>
      refine ⟨?o0d, ?o1d, ?o2d, ?o3d, ?o4d, ?o5d, ?o6d, ?o7d, ?o8d, ?o9d, ?o10d, ?o11d, ?o12d, ?o13d, ?o14d, ?o15d, ?o16d, trivial⟩
      case o0d =>
        intro d us wx hd hJ hp hu hi
        refine .inl ⟨by kernel_rfl, fun K Q hK => ?_⟩
        simp only [putAll, Act.put, Nat.reduceAdd] at hK ⊢
        go_simp
        refine Eq.mp ?_ (hK (.pointer (some ⟨w.heap.size, 3, none⟩)) _ hJ rfl (fun _ _ _ h => h))
        kernel_rfl
      case o1d =>
        intro d us wx hd hJ hp hu hi
        have h0 : us 0 = _ := (hp 0 (by simp [Region.binds])).2
        have z0 : wx.cell? ⟨w.heap.size, 3, none⟩ = some (.string s) := (hJ.2.cell ⟨w.heap.size, 3, none⟩ hgl hgn).trans q3
        refine .inl ⟨by kernel_rfl, fun K Q hK => ?_⟩
        simp only [putAll, Act.put, Nat.reduceAdd, h0] at hK ⊢
        go_simp
        refine Eq.mp ?_ (hK (.string s) _ hJ rfl (fun _ _ _ h => h))
        kernel_rfl
      case o2d =>
        intro d us wx hd hJ hp hu hi
        have h1 : us 1 = _ := (hp 1 (by simp [Region.binds])).2
        refine .inl ⟨by kernel_rfl, fun K Q hK => ?_⟩
        simp only [putAll, Act.put, Nat.reduceAdd, h1] at hK ⊢
        go_simp
        refine Eq.mp ?_ (hK (.int .i64 (s.size : Nat)) _ hJ rfl (fun _ _ _ h => h))
        kernel_rfl
      case o3d =>
        intro d us wx hd hJ hp hu hi
        have h2 : us 2 = _ := (hp 2 (by simp [Region.binds])).2
        refine .inl ⟨by kernel_rfl, fun K Q hK => ?_⟩
        simp only [putAll, Act.put, Nat.reduceAdd, h2] at hK ⊢
        go_simp
        try rw [b1]
        refine Eq.mp ?_ (hK (.int .u8 (c1.toNat : Nat)) _ hJ rfl (fun k u _ h => tauL_any k u h))
        kernel_rfl
      case o4d =>
        intro d us wx hd hJ hp hu hi
        refine .inl ⟨by kernel_rfl, fun K Q hK => ?_⟩
        simp only [putAll, Act.put, Nat.reduceAdd] at hK ⊢
        go_simp
        refine Eq.mp ?_ (hK (.pointer (some ⟨w.heap.size, 2, none⟩)) _ hJ rfl (fun _ _ _ h => h))
        kernel_rfl
      case o5d =>
        intro d us wx hd hJ hp hu hi
        have h4 : us 4 = _ := (hp 4 (by simp [Region.binds])).2
        have z0 : wx.cell? ⟨w.heap.size, 2, none⟩ = some (.int .i64 (n : Nat)) := (hJ.2.cell ⟨w.heap.size, 2, none⟩ hgl hgn).trans q2
        refine .inl ⟨by kernel_rfl, fun K Q hK => ?_⟩
        simp only [putAll, Act.put, Nat.reduceAdd, h4] at hK ⊢
        go_simp
        refine Eq.mp ?_ (hK (.int .i64 (n : Nat)) _ hJ rfl (fun _ _ _ h => h))
        kernel_rfl
      case o6d =>
        intro d us wx hd hJ hp hu hi
        have h5 : us 5 = _ := (hp 5 (by simp [Region.binds])).2
        refine .inl ⟨by kernel_rfl, fun K Q hK => ?_⟩
        simp only [putAll, Act.put, Nat.reduceAdd, h5] at hK ⊢
        go_simp
        try rw [b2]
        refine Eq.mp ?_ (hK (.int .u8 (c2.toNat : Nat)) _ hJ rfl (fun k u _ h => tauL_any k u h))
        kernel_rfl
      case o7d =>
        intro d us wx hd hJ hp hu hi
        refine .inl ⟨by kernel_rfl, fun K Q hK => ?_⟩
        simp only [putAll, Act.put, Nat.reduceAdd] at hK ⊢
        go_simp
        refine Eq.mp ?_ (hK (.pointer (some ⟨w.heap.size, 2, none⟩)) _ hJ rfl (fun _ _ _ h => h))
        kernel_rfl
      case o8d =>
        intro d us wx hd hJ hp hu hi
        have h7 : us 7 = _ := (hp 7 (by simp [Region.binds])).2
        have z0 : wx.cell? ⟨w.heap.size, 2, none⟩ = some (.int .i64 (n : Nat)) := (hJ.2.cell ⟨w.heap.size, 2, none⟩ hgl hgn).trans q2
        refine .inl ⟨by kernel_rfl, fun K Q hK => ?_⟩
        simp only [putAll, Act.put, Nat.reduceAdd, h7] at hK ⊢
        go_simp
        refine Eq.mp ?_ (hK (.int .i64 (n : Nat)) _ hJ rfl (fun _ _ _ h => h))
        kernel_rfl
      case o9d =>
        intro d us wx hd hJ hp hu hi
        have h8 : us 8 = _ := (hp 8 (by simp [Region.binds])).2
        refine .inl ⟨by kernel_rfl, fun K Q hK => ?_⟩
        simp only [putAll, Act.put, Nat.reduceAdd, h8] at hK ⊢
        go_simp
        try rw [b4]
        refine Eq.mp ?_ (hK (.int .i64 (n8 : Nat)) _ hJ rfl (fun k u _ h => tauL_any k u h))
        kernel_rfl
      case o10d =>
        intro d us wx hd hJ hp hu hi
        have h9 : us 9 = _ := (hp 9 (by simp [Region.binds])).2
        refine .inl ⟨by kernel_rfl, fun K Q hK => ?_⟩
        simp only [putAll, Act.put, Nat.reduceAdd, h9] at hK ⊢
        go_simp
        try rw [b3]
        refine Eq.mp ?_ (hK (.int .u8 (c3.toNat : Nat)) _ hJ rfl (fun k u _ h => tauL_any k u h))
        kernel_rfl
      case o11d =>
        intro d us wx hd hJ hp hu hi
        refine .inl ⟨by kernel_rfl, fun K Q hK => ?_⟩
        simp only [putAll, Act.put, Nat.reduceAdd] at hK ⊢
        go_simp
        refine Eq.mp ?_ (hK (.pointer (some ⟨g, 1, none⟩)) _ hJ rfl (fun _ _ _ h => h))
        kernel_rfl
      case o12d =>
        intro d us wx hd hJ hp hu hi
        have h11 : us 11 = _ := (hp 11 (by simp [Region.binds])).2
        have h3 : us 3 = _ := (hp 3 (by simp [Region.binds])).2
        obtain ⟨v0, hv0⟩ : ∃ v0, (set3 L c1 c2 c3 (d 12) (d 14) (d 16))[1]? = some v0 := ⟨_, List.getElem?_eq_getElem (by rw [set3_len]; omega)⟩
        have z0 := hJ.1.cell hv0
        have f0 := Blk.frozen hJ.1 1
        have l0 := hJ.1.lt
        refine .inl ⟨by kernel_rfl, fun K Q hK => ?_⟩
        simp only [putAll, Act.put, Nat.reduceAdd, h11, h3] at hK ⊢
        go_simp
        refine Eq.mp ?_ (hK (undef) (wx.setCell ⟨g, 1, none⟩ (.int .u8 (c1.toNat : Nat))) (JB.set hJ (set3_1 _ _ _ _ _ _ _)) trivial (fun k u _ h => tauL_any k u h))
        kernel_rfl
      case o13d =>
        intro d us wx hd hJ hp hu hi
        refine .inl ⟨by kernel_rfl, fun K Q hK => ?_⟩
        simp only [putAll, Act.put, Nat.reduceAdd] at hK ⊢
        go_simp
        refine Eq.mp ?_ (hK (.pointer (some ⟨g, 2, none⟩)) _ hJ rfl (fun _ _ _ h => h))
        kernel_rfl
      case o14d =>
        intro d us wx hd hJ hp hu hi
        have h13 : us 13 = _ := (hp 13 (by simp [Region.binds])).2
        have h6 : us 6 = _ := (hp 6 (by simp [Region.binds])).2
        obtain ⟨v0, hv0⟩ : ∃ v0, (set3 L c1 c2 c3 (d 12) (d 14) (d 16))[2]? = some v0 := ⟨_, List.getElem?_eq_getElem (by rw [set3_len]; omega)⟩
        have z0 := hJ.1.cell hv0
        have f0 := Blk.frozen hJ.1 2
        have l0 := hJ.1.lt
        refine .inl ⟨by kernel_rfl, fun K Q hK => ?_⟩
        simp only [putAll, Act.put, Nat.reduceAdd, h13, h6] at hK ⊢
        go_simp
        refine Eq.mp ?_ (hK (undef) (wx.setCell ⟨g, 2, none⟩ (.int .u8 (c2.toNat : Nat))) (JB.set hJ (set3_2 _ _ _ _ _ _ _)) trivial (fun k u _ h => tauL_any k u h))
        kernel_rfl
      case o15d =>
        intro d us wx hd hJ hp hu hi
        refine .inl ⟨by kernel_rfl, fun K Q hK => ?_⟩
        simp only [putAll, Act.put, Nat.reduceAdd] at hK ⊢
        go_simp
        refine Eq.mp ?_ (hK (.pointer (some ⟨g, 3, none⟩)) _ hJ rfl (fun _ _ _ h => h))
        kernel_rfl
      case o16d =>
        intro d us wx hd hJ hp hu hi
        have h15 : us 15 = _ := (hp 15 (by simp [Region.binds])).2
        have h10 : us 10 = _ := (hp 10 (by simp [Region.binds])).2
        obtain ⟨v0, hv0⟩ : ∃ v0, (set3 L c1 c2 c3 (d 12) (d 14) (d 16))[3]? = some v0 := ⟨_, List.getElem?_eq_getElem (by rw [set3_len]; omega)⟩
        have z0 := hJ.1.cell hv0
        have f0 := Blk.frozen hJ.1 3
        have l0 := hJ.1.lt
        refine .inl ⟨by kernel_rfl, fun K Q hK => ?_⟩
        simp only [putAll, Act.put, Nat.reduceAdd, h15, h10] at hK ⊢
        go_simp
        refine Eq.mp ?_ (hK (undef) (wx.setCell ⟨g, 3, none⟩ (.int .u8 (c3.toNat : Nat))) (JB.set hJ (set3_3 _ _ _ _ _ _ _)) trivial (fun k u _ h => tauL_any k u h))
        kernel_rfl
    intro d us w3 hJ hall
    have d12 := (hall 12 (by simp)).1
    have d14 := (hall 14 (by simp)).1
    have d16 := (hall 16 (by simp)).1
    rw [d12, d14, d16] at hJ
    obtain ⟨hA3, hk3⟩ := hJ
    simp only [putAll, Act.put, Nat.reduceAdd]
    clear hall d12 d14 d16
    have p3 : w3.cell? ⟨w.heap.size, 3, none⟩ = some (.string s) := (hk3.cell ⟨w.heap.size, 3, none⟩ hgl hgn).trans q3
    have hz3 := hk3.size
    have hlg3 := hA3.lt
    have hgl3 : w.heap.size < w3.heap.size := by omega
    have hB3 : Below w.heap.size w w3 := hB2.out.trans (hk3.below (B := w.heap.size) (fun k e => by rw [e]; have := hg.out; omega) (by omega))
    replace hB3 := Lib.hid hB3
    have hgn3 : ¬ g = w.heap.size := fun e => hgn e.symm
    go_simp
    go_wp2_with fail
    have hxc := @Ext.cell
    have hxf := @Ext.frozen
    refine wp_hide (fun Q0 hQ0 => ?_)
    refine wp_region_line (fun w' => ∃ x : Ext _, w' = x.w) [some false, some false, some false, none] 0 (by kernel_rfl) (by kernel_rfl) ⟨⟨_, (Below.refl _ _).drew⟩, rfl⟩ ?_
    simp only [earlyL, tailL]
    repeat (first | ((with_reducible refine wpMix_p ?_); go_big_quiet_step (fail); refine wpQuiet_nil ?_) | ((with_reducible refine wpMix_e ?_); go_big_quiet_step ((first | fail)); refine wpQuiet_nil ?_))
    refine wpMix_nil ?_
    clear hxc hxf
    intro wx hwx
    obtain ⟨x, hx⟩ := hwx
    have hb := x.below
    rw [← hx] at hb
    clear hx x
    have hA4 : ArrB wx g _ _ := Blk.below hA3 hb hA3.lt
    have hB4 := hB3.out.trans (hb.mono (by omega))
    have hz4 := hb.size
    obtain ⟨w5, hrun, hA5, hk5⟩ := hA4.copy s 4 28 28 3 (by rw [set3_len, hL32]; omega) (by omega)
    refine wpTail_step ?_
    intro Q1 hQ1
    go_wp2_with (at_builtin; refine Lib.wpList_copy_run _ rfl _ _ 97 9 rfl _ _ rfl rfl hrun ?_)
    refine hQ1 _ _ rfl (fun h => absurd h (by decide)) ?_
    clear hQ1 Q1
    refine wpTail_nil ?_
    refine hQ0 _ _ ?_
    clear hQ0 Q0
    have hlist : (set3 L c1 c2 c3 true true true).take 4 ++ s.data.toList ++ (set3 L c1 c2 c3 true true true).drop (4 + s.size) = bodyC ⟨true, true, n, s.data.toList⟩ ++ List.replicate 4 0 := by
      rw [hL.out, ← e1.out, ← e2.out, ← e3.out, ← e8.out, cel_copied 67 s n hs]
      unfold bodyC
      rw [hkind]
      rfl
    rw [hlist] at hA5
    have hB5 : Below w.heap.size w w5 := hB4.trans (hk5.below (B := w.heap.size) (fun k e => by rw [e]; have := hg.out; omega) (by omega))
    have hz5 := hk5.size
    clear hlist hrun hA4 hb hB4 hA3 hk3 p3 hA2 q2 q3 hk5
    obtain ⟨body, hbody⟩ : ∃ body, bodyC ⟨true, true, n, s.data.toList⟩ = body := ⟨_, rfl⟩
    have hbl : body.length = 28 := by rw [← hbody]; exact bodyC_len hs
    rw [hbody] at hA5
    have hmk : makeC ⟨true, true, n, s.data.toList⟩ = body ++ leL (crcL body) 4 := by unfold makeC; rw [hbody]
    replace hbody := Lib.hid hbody
    replace hmk := Lib.hid hmk
    have ht5 := hA5.text 28 32 (by simp; omega)
    rw [List.take_append_of_le_length (by omega), List.take_of_length_le (by omega)] at ht5
    have hT5 : TabAt w5 := hT.out.below hB5 hT.out.pos
    replace hB5 := Lib.hid hB5
    have hgl5 : g < w5.heap.size := hA5.lt
    clear ht5
    have ht5 := hA5.text 28 32 (by simp; omega)
    rw [List.take_append_of_le_length (by omega), List.take_of_length_le (by omega)] at ht5
    have hcrc := Crc_one (w := w5.alloc (.cells #[.string (bs body)] 9)) (hT5.below (B := w5.heap.size) ((Below.refl _ _).alloc (Nat.le_refl _) _) hT5.pos) w5.heap.size (bs body) (by simp) (by simp [go_sem]) (by rw [bs_size]; omega)
    rw [bs_data] at hcrc
    have hcl := crcL_lt body
    replace hA5 := Lib.hid hA5
    replace hcrc := Lib.hid hcrc
    go_wp2_with fail
    refine hcrc.out.mono ?_
    rintro e w6 ⟨rfl, hb6⟩
    have hb6' : Below w5.heap.size w5 w6 := ((Below.refl _ _).alloc (Nat.le_refl _) _).trans (hb6.mono (by simp))
    have hA6 : ArrB w6 g _ _ := Blk.below hA5.out hb6' hgl5
    have hz6 := hb6'.size
    have hB6 : Below w.heap.size w w6 := hB5.out.trans (hb6'.mono (by omega))
    clear hb6 hb6' ht5
    replace hB6 := Lib.hid hB6
    generalize crcL body = crc at *
    go_wp2_with fail
    go_loopw [5, 6] (fun sv iv wr => ∃ i : Nat, 28 ≤ i ∧ i ≤ 32 ∧ iv = .int .i64 (i : Nat) ∧ sv = .int .u32 (crc / 256 ^ (i - 28) : Nat) ∧ JB w6 g 247 (body ++ leL crc (i - 28) ++ List.replicate (32 - i) 0) wr) (fun _ iv _ => 32 - (intOf iv).toNat)
    case atStart => exact ⟨28, Nat.le_refl _, by decide, rfl, by simp, by simpa [leL] using hA6, KeptBut.refl _ _⟩
    case round =>
      obtain ⟨i, hi0, hi1, rfl, rfl, hJ⟩ := hrel
      have hpow : crc / 256 ^ (i - 28) < 4294967296 := Nat.lt_of_le_of_lt (Nat.div_le_self _ _) hcl
      have hnext : crc / 256 ^ (i - 28) / 256 = crc / 256 ^ (i + 1 - 28) := by rw [Nat.div_div_eq_div_mul, show i + 1 - 28 = (i - 28) + 1 from by omega, Nat.pow_succ]
      have hzr := hJ.2.size
      by_cases hlt : i < 32
      · obtain ⟨X, hX⟩ : ∃ X, crc / 256 ^ (i - 28) = X := ⟨_, rfl⟩
        obtain ⟨c, hc⟩ : ∃ c, UInt8.ofNat X = c := ⟨_, rfl⟩
        have hcw : IntKind.u8.wrap ((X : Nat) : Int) = (c.toNat : Nat) := by rw [← hc]; exact byte_of0 (X : Nat) (by omega)
        obtain ⟨Y, hY⟩ : ∃ Y, crc / 256 ^ (i + 1 - 28) = Y := ⟨_, rfl⟩
        have hXY : ((X : Nat) : Int) / 256 = (Y : Nat) := by rw [hX, hY] at hnext; omega
        have hset := hJ.set (i := i) (c := c) (le_set2 hbl crc hi0 hlt (by rw [hX]; exact hc))
        obtain ⟨v0, hv0⟩ : ∃ v0, (body ++ leL crc (i - 28) ++ List.replicate (32 - i) 0)[i]? = some v0 := ⟨_, List.getElem?_eq_getElem (by simp [leL_len]; omega)⟩
        have z0 := hJ.1.cell hv0
        have f0 := Blk.frozen hJ.1 i
        have l0 := hJ.1.lt
        rw [hX]
        replace hX := Lib.hid hX
        replace hc := Lib.hid hc
        replace hY := Lib.hid hY
        replace hnext := Lib.hid hnext
        replace hset := Lib.hid hset
        replace hJ := Lib.hid hJ
        have hlt' : (i : Int) < 32 := by omega
        clear hv0
        go_wp2_with fail
        exact ⟨⟨i + 1, by omega, by omega, by go_num, by rw [hY.out], hset.out⟩, by first | omega | (simp only [intOf]; omega)⟩
      · obtain rfl : i = 32 := by omega
        have hA7 := hJ.1
        have ht7 := hA7.text 32 32 (by simp [leL_len]; omega)
        rw [List.take_of_length_le (by simp [leL_len]; omega)] at ht7
        have hfin : body ++ leL crc (32 - 28) ++ List.replicate (32 - 32) 0 = makeC ⟨true, true, n, s.data.toList⟩ := by rw [hmk.out]; simp
        rw [hfin] at ht7
        have hB7 : Below w.heap.size w wr := hB6.out.trans (hJ.2.below (B := w.heap.size) (fun k e => by rw [e]; have := hg.out; omega) (by omega))
        generalize crc / 256 ^ (32 - 28) = X at *
        replace hfin := Lib.hid hfin
        replace hJ := Lib.hid hJ
        replace hB7 := Lib.hid hB7
        clear hA7 hnext
        go_wp2_with fail
        go_ret2
        exact ⟨rfl, hB7.out⟩
theorem results_blk_tmp {fn : Func} {p u : Tmp} {ty : TypeId} (h : fn.results = #[.cell p ty, .tmp u]) (tmps : Array Value) (w : World) (g : Nat) (v x : Value)
    (hp : tmps.getD p undef = .pointer (some ⟨g, 0, none⟩)) (hx : tmps.getD u undef = x) (hl : (loadVar ty ⟨g, 0, none⟩).run Tryz.prog w = .ok v w) :
    (results fn tmps).run Tryz.prog w = .ok (.tuple #[v, x]) w := by
  rw [results_cell_tmp h, hp, hx]
  simp [asAddr, hl]
theorem results_blk_tmp2 {fn : Func} {p u t : Tmp} {ty : TypeId} (h : fn.results = #[.cell p ty, .tmp u, .tmp t]) (tmps : Array Value) (w : World) (g : Nat) (v x y : Value)
    (hp : tmps.getD p undef = .pointer (some ⟨g, 0, none⟩)) (hx : tmps.getD u undef = x) (hy : tmps.getD t undef = y) (hl : (loadVar ty ⟨g, 0, none⟩).run Tryz.prog w = .ok v w) :
    (results fn tmps).run Tryz.prog w = .ok (.tuple #[v, x, y]) w := by
  have : (results fn tmps).run Tryz.prog w = ((asAddr (tmps.getD p undef)).run Tryz.prog w).andThen fun a w₁ => ((loadVar ty a).run Tryz.prog w₁).andThen fun v w₂ => .ok (.tuple #[v, tmps.getD u undef, tmps.getD t undef]) w₂ := by
    simp only [results, h]
    simp [Sem.run_bind, Result.andThen]
  rw [this, hp, hx, hy]
  simp [asAddr, hl]
end Go.Proofs.YtdbpfemkjfogoaaGreatDoor
