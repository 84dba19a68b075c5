/- DiskNobody: the walk. -/
import Derived.Test.YtkhicfoikkllmaaDNob
namespace Go.Proofs.Ytkhicfoikkllmaa
open Go.RowKit
set_option linter.unusedVariables false
set_option linter.unusedSimpArgs false
set_option maxRecDepth 100000 in
set_option maxHeartbeats 4000000 in
theorem Nobody_any (w : World) (a b : ByteArray) (n : Int) :
    Calls Try.prog 7 #[.string a, .string b, .int .i64 n] w fun e w' => e = .returned (.bool true) ∧ Below w.heap.size w w' := by
  have hawk := Lib.hid awake_any
  by_cases ha : 3000 < a.size
  · have ha' : (3000 : Int) < a.size := by omega
    go_enter Try.func7, Try.ntmps7
    go_wp2_with fail
    refine (hawk.out _).mono ?_
    rintro e w9 ⟨rfl, hb9⟩
    go_wp2_with fail
    go_ret
    exact ⟨rfl, hb9⟩
  have ha' : ¬ (3000 : Int) < a.size := by omega
  by_cases hb : 3000 < b.size
  · have hb' : (3000 : Int) < b.size := by omega
    go_enter Try.func7, Try.ntmps7
    go_wp2_with fail
    refine (hawk.out _).mono ?_
    rintro e w9 ⟨rfl, hb9⟩
    go_wp2_with fail
    go_ret
    exact ⟨rfl, hb9⟩
  have hb' : ¬ (3000 : Int) < b.size := by omega
  have hal : Below w.heap.size w ((w.alloc (.cells #[.int .i64 0, .map none, .map none, .slice none 0 0, .bool false, .int .i64 0] 56)).alloc (.cells #[.pointer none, .pointer (some ⟨w.heap.size, 0, none⟩)] 30)) := ((Below.refl _ _).alloc (Nat.le_refl _) _).alloc (by simp) _
  have hZ : Blk ((w.alloc (.cells #[.int .i64 0, .map none, .map none, .slice none 0 0, .bool false, .int .i64 0] 56)).alloc (.cells #[.pointer none, .pointer (some ⟨w.heap.size, 0, none⟩)] 30)) w.heap.size 56 #[.int .i64 0, .map none, .map none, .slice none 0 0, .bool false, .int .i64 0] :=
    by
    have h0 : Blk (w.alloc (.cells #[.int .i64 0, .map none, .map none, .slice none 0 0, .bool false, .int .i64 0] 56)) w.heap.size 56 #[.int .i64 0, .map none, .map none, .slice none 0 0, .bool false, .int .i64 0] := Blk.new _ _ _
    exact h0.below ((Below.refl _ _).alloc (Nat.le_refl _) _) (by simp)
  have hR : Blk ((w.alloc (.cells #[.int .i64 0, .map none, .map none, .slice none 0 0, .bool false, .int .i64 0] 56)).alloc (.cells #[.pointer none, .pointer (some ⟨w.heap.size, 0, none⟩)] 30)) (w.heap.size + 1) 30 #[.pointer none, .pointer (some ⟨w.heap.size, 0, none⟩)] := by
    have h0 : Blk ((w.alloc (.cells #[.int .i64 0, .map none, .map none, .slice none 0 0, .bool false, .int .i64 0] 56)).alloc (.cells #[.pointer none, .pointer (some ⟨w.heap.size, 0, none⟩)] 30)) (w.alloc (.cells #[.int .i64 0, .map none, .map none, .slice none 0 0, .bool false, .int .i64 0] 56)).heap.size 30 #[.pointer none, .pointer (some ⟨w.heap.size, 0, none⟩)] := Blk.new _ _ _
    simpa using h0
  replace hal := Lib.hid hal
  replace hZ := Lib.hid hZ
  replace hR := Lib.hid hR
  go_enter Try.func7, Try.ntmps7
  go_wp2_with fail
  generalize hw1 : (w.alloc (.cells #[.int .i64 0, .map none, .map none, .slice none 0 0, .bool false, .int .i64 0] 56)).alloc (.cells #[.pointer none, .pointer (some ⟨w.heap.size, 0, none⟩)] 30) = w1 at *
  clear hw1
  go_loopw [26] (fun iv wr => ∃ k : Nat, k ≤ 2 ∧ iv = .int .i64 k ∧ Below w1.heap.size w1 wr) (fun iv _ => 2 - (intOf iv).toNat)
  case atStart => exact ⟨0, Nat.zero_le _, rfl, Below.refl _ _⟩
  case round =>
    obtain ⟨k, hk, rfl, hbr⟩ := hrel
    by_cases hlt : k < 2
    · have hlt' : (k : Int) < 2 := by omega
      obtain ⟨pa, hpa, hnb⟩ : ∃ pa, (#[Value.pointer none, .pointer (some ⟨w.heap.size, 0, none⟩)] : Array Value)[k]? = some (.pointer pa) ∧ ∀ w', Below w1.heap.size w1 w' → Nob w' (.pointer pa) := by
        match k, hlt with
        | 0, _ => exact ⟨none, rfl, fun w' _ => none_nil w'⟩
        | 1, _ => exact ⟨_, rfl, fun w' hb => none_zero (hZ.out.below hb hZ.out.lt)⟩
      have hRr := hR.out.below hbr hR.out.lt
      have q : wr.cell? ⟨w.heap.size + 1, k, none⟩ = some (.pointer pa) := (hRr.cell k).trans hpa
      have hzr := hbr.size
      have hn1 := hnb wr hbr
      have c1 := Fuse_nob wr hn1 n
      have c2 := Crash_nob wr (fun w' hb => hnb w' (hbr.trans (hb.mono hzr))) n
      replace hn1 := Lib.hid hn1
      replace c1 := Lib.hid c1
      replace c2 := Lib.hid c2
      replace hnb := Lib.hid hnb
      replace hRr := Lib.hid hRr
      replace hpa := Lib.hid hpa
      go_wp2_with fail
      refine c1.out.mono ?_
      rintro e w' ⟨rfl, rfl⟩
      clear c1
      go_wp2_with fail
      refine c2.out.mono ?_
      rintro e w2 ⟨rfl, hb2⟩
      have hb2' := hbr.trans (hb2.mono hzr)
      have hn2 := hnb.out w2 hb2'
      have hz2 := hb2'.size
      have ks := Lib.hid (Start_nob w2 hn2)
      have kr := Lib.hid (Read_nob w2 hn2 a)
      have kc := Lib.hid (Create_nob w2 hn2 a)
      have kp := Lib.hid (Append_nob w2 hn2 a b)
      have ky := Lib.hid (Sync_nob w2 hn2 a)
      have kn := Lib.hid (Rename_nob w2 hn2 a b)
      have kd := Lib.hid (Delete_nob w2 hn2 a)
      have kD := Lib.hid (DirSync_nob w2 hn2)
      have kl := Lib.hid (List_nob w2 hn2)
      have ku := Lib.hid (Used_nob w2 hn2)
      have ko := Lib.hid (Room_nob w2 hn2)
      have kf := Lib.hid (Fused_nob w2 hn2)
      have kw := Lib.hid (Down_nob w2 hn2)
      have kt := Lib.hid (Twin_nob w2 hn2)
      have ke := Lib.hid (Same_nob w2 hn2 (.pointer none) true (none_nil w2))
      have kN := Lib.hid (New_any 0 w2)
      replace hn2 := Lib.hid hn2
      replace hbr := Lib.hid hbr
      replace hb2' := Lib.hid hb2'
      clear q c2 hb2
      go_wp2_with fail
      refine ks.out.mono ?_
      rintro e w' ⟨rfl, rfl⟩
      clear ks
      go_wp2_with fail
      refine kr.out.mono ?_
      rintro e w' ⟨rfl, rfl⟩
      clear kr
      go_wp2_with fail
      refine kc.out.mono ?_
      rintro e w' ⟨rfl, rfl⟩
      clear kc
      go_wp2_with fail
      refine kp.out.mono ?_
      rintro e w' ⟨rfl, rfl⟩
      clear kp
      go_wp2_with fail
      refine ky.out.mono ?_
      rintro e w' ⟨rfl, rfl⟩
      clear ky
      go_wp2_with fail
      refine kn.out.mono ?_
      rintro e w' ⟨rfl, rfl⟩
      clear kn
      go_wp2_with fail
      refine kd.out.mono ?_
      rintro e w' ⟨rfl, rfl⟩
      clear kd
      go_wp2_with fail
      refine kD.out.mono ?_
      rintro e w' ⟨rfl, rfl⟩
      clear kD
      go_wp2_with fail
      refine kl.out.mono ?_
      rintro e w' ⟨rfl, rfl⟩
      clear kl
      go_wp2_with fail
      refine ku.out.mono ?_
      rintro e w' ⟨rfl, rfl⟩
      clear ku
      go_wp2_with fail
      refine ko.out.mono ?_
      rintro e w' ⟨rfl, rfl⟩
      clear ko
      go_wp2_with fail
      refine kf.out.mono ?_
      rintro e w' ⟨rfl, rfl⟩
      clear kf
      go_wp2_with fail
      refine kw.out.mono ?_
      rintro e w' ⟨rfl, rfl⟩
      clear kw
      go_wp2_with fail
      refine kt.out.mono ?_
      rintro e w' ⟨rfl, rfl⟩
      clear kt
      go_wp2_with fail
      refine ke.out.mono ?_
      rintro e w' ⟨rfl, rfl⟩
      clear ke
      go_wp2_with fail
      refine kN.out.mono ?_
      rintro e w3 ⟨d, rfl, ⟨L, hL⟩, hb3⟩
      have hb3' := hb2'.out.trans (hb3.mono hz2)
      have kS := Lib.hid (Same_nob w3 (hnb.out w3 hb3') (.pointer (some ⟨d, 0, none⟩)) false (none_any hL))
      replace hb3' := Lib.hid hb3'
      clear hb3 hL kN
      go_wp2_with fail
      refine kS.out.mono ?_
      rintro e w' ⟨rfl, rfl⟩
      clear kS
      go_wp2_with fail
      go_roundw
      case rel => exact ⟨k + 1, by omega, by rfl, hb3'.out⟩
      case measure => first | omega | (simp only [intOf]; omega)
    · obtain rfl : k = 2 := by omega
      have hlt' : ¬ ((2 : Nat) : Int) < 2 := by omega
      have hbw := hal.out.trans (hbr.mono hal.out.size)
      replace hbw := Lib.hid hbw
      replace hbr := Lib.hid hbr
      go_wp2_with fail
      refine (hawk.out _).mono ?_
      rintro e w9 ⟨rfl, hb9⟩
      have hfin := hbw.out.trans (hb9.mono hbw.out.size)
      replace hfin := Lib.hid hfin
      clear hb9
      go_wp2_with fail
      go_ret
      exact ⟨rfl, hfin.out⟩
end Go.Proofs.Ytkhicfoikkllmaa
