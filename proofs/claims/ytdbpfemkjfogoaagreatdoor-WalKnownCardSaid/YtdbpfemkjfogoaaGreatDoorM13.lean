/- Contracts of package cell: Read. Contracts of package frame: put, Write. strings.Builder whose row is known by name: WriteString, String. Contracts of package frame: one. Contracts of package frame: Read. A row of structs in memory, by a list of them. Contracts of package batch: long, bad, Last, Check. Contracts of package batch: Last, Check. -/
import Derived.Test.YtdbpfemkjfogoaaGreatDoorM12
import Derived.Test.YtdbpfemkjfogoaaGreatDoorM11
import Derived.Test.YtdbpfemkjfogoaaGreatDoorM07
import Derived.Test.YtdbpfemkjfogoaaGreatDoorM02
import Derived.Test.YtdbpfemkjfogoaaGreatDoorM01
import Derived.LoopTactic
namespace Go.Proofs.YtdbpfemkjfogoaaGreatDoor
open Go.RowKit
set_option linter.unusedVariables false
set_option linter.unusedSimpArgs false
theorem i64_or_nat (a b : Nat) (ha : a < 65536) (hb : b < 65536) : bits .or .i64 (a : Int) (b : Int) = ((a ||| b : Nat) : Int) := by
  have h1 : (BitVec.ofInt 64 (a : Int) ||| BitVec.ofInt 64 (b : Int)).toNat = a ||| b := by
    have e1 : (BitVec.ofInt 64 (a : Int)).toNat = a := by rw [BitVec.toNat_ofInt]; omega
    have e2 : (BitVec.ofInt 64 (b : Int)).toNat = b := by rw [BitVec.toNat_ofInt]; omega
    rw [BitVec.toNat_or, e1, e2]
  have h2 : a ||| b < 65536 := Nat.or_lt_two_pow (n := 16) ha hb
  show IntKind.i64.wrap (((BitVec.ofInt 64 (a : Int) ||| BitVec.ofInt 64 (b : Int)).toNat : Nat) : Int) = _
  rw [h1, IntKind.wrap_i64]
  omega
theorem str_at (s : ByteArray) {k : Nat} (h : k < s.size) : s[k] = s.data.toList.getD k 0 := by
  have : k < s.data.toList.length := by rw [dlen]; exact h
  rw [List.getD_eq_getElem?_getD, List.getElem?_eq_getElem this]
  rfl
def celV (c : CelE) : Array Value := #[.bool c.first, .bool c.last, .int .i64 (c.num : Nat), .string (bs c.data)]
def cel0 : CelE := ⟨false, false, 0, []⟩
def celO (o : Option CelE) : Value := .tuple #[.agg (celV (o.getD cel0)), .bool o.isSome]
theorem load_cel {w : World} {g : Nat} {cs : Array Value} (h : Blk w g 196 cs) (hs : cs.size = 4) : (loadVar 196 ⟨g, 0, none⟩).run Tryz.prog w = .ok (.agg cs) w :=
  run_loadVar_row w g 196 196 cs (0, 0) _ h Tryz.underlying196 rfl (by rw [hs]; kernel_rfl)
theorem cel_set {w : World} {g t : Nat} {cs : Array Value} (h : Blk w g t cs) (hs : cs.size = 4) (a b c d : Value) : Blk ((((w.setCell ⟨g, 0, none⟩ a).setCell ⟨g, 1, none⟩ b).setCell ⟨g, 2, none⟩ c).setCell ⟨g, 3, none⟩ d) g t #[a, b, c, d] := by
  have := (((h.set_ 0 a).set_ 1 b).set_ 2 c).set_ 3 d
  rcases cs with ⟨_ | ⟨a, _ | ⟨b, _ | ⟨c, _ | ⟨d, _ | ⟨x, l⟩⟩⟩⟩⟩⟩
  all_goals first | exact this | (simp at hs; done) | (simp at hs; omega)
set_option maxRecDepth 100000 in
set_option maxHeartbeats 2000000 in
theorem CRead_short {w : World} (s : ByteArray) (hs : s.size ≤ 1073741824) (h : s.size ≠ 32) :
    Calls Tryz.prog 129 #[.string s] w fun e w' => e = .returned (celO none) ∧ Below w.heap.size w w' := by
  have h' : ¬ ((s.size : Nat) : Int) = 32 := by omega
  go_enter Tryz.func129, Tryz.ntmps129
  go_wp2_with fail
  exact bodyPost_ret (v := celO none) (results_blk_tmp rfl _ _ w.heap.size (.agg (celV cel0)) (.bool false) rfl rfl (load_cel (Blk.new w _ _) rfl)) rfl ⟨rfl, (Below.refl _ _).alloc (Nat.le_refl _) _⟩
set_option maxRecDepth 100000 in
set_option maxHeartbeats 2000000 in
theorem CRead_great {w : World} (s : ByteArray) (h : s.size = 32) (h1 : 24 < (s.data.toList.getD 1 0).toNat) :
    Calls Tryz.prog 129 #[.string s] w fun e w' => e = .returned (celO none) ∧ Below w.heap.size w w' := by
  have k1 : 1 < s.size := by omega
  have x1 := str_at s k1
  generalize s.data.toList.getD 1 0 = b1 at *
  have h1' : (24 : Int) < (b1.toNat : Nat) := by omega
  go_enter Tryz.func129, Tryz.ntmps129
  go_wp2_with fail
  exact bodyPost_ret (v := celO none) (results_blk_tmp rfl _ _ w.heap.size (.agg (celV cel0)) (.bool false) rfl rfl (load_cel (Blk.new w _ _) rfl)) rfl ⟨rfl, (Below.refl _ _).alloc (Nat.le_refl _) _⟩
set_option maxRecDepth 100000 in
set_option maxHeartbeats 4000000 in
theorem CRead_main {w : World} (hT : TabAt w) (s : ByteArray) (h : s.size = 32) (h1 : (s.data.toList.getD 1 0).toNat ≤ 24) :
    Calls Tryz.prog 129 #[.string s] w fun e w' => e = .returned (celO (readC s.data.toList)) ∧ Below w.heap.size w w' := by
  have k0 : 0 < s.size := by omega
  have k1 : 1 < s.size := by omega
  have k2 : 2 < s.size := by omega
  have k3 : 3 < s.size := by omega
  have x0 := str_at s k0
  have x1 := str_at s k1
  have x2 := str_at s k2
  have x3 := str_at s k3
  have hrd : readC s.data.toList = if mayC (cellC s.data.toList) = true ∧ makeC (cellC s.data.toList) = s.data.toList then some (cellC s.data.toList) else none := by
    unfold readC
    rw [if_neg (by rw [dlen]; omega)]
  have hcell : cellC s.data.toList = ⟨decide ((s.data.toList.getD 0 0).toNat % 2 = 1), decide ((s.data.toList.getD 0 0).toNat / 2 % 2 = 1), (s.data.toList.getD 2 0).toNat + 256 * (s.data.toList.getD 3 0).toNat, (s.data.toList.drop 4).take (s.data.toList.getD 1 0).toNat⟩ := rfl
  generalize s.data.toList.getD 0 0 = b0 at *
  generalize s.data.toList.getD 1 0 = b1 at *
  generalize s.data.toList.getD 2 0 = b2 at *
  generalize s.data.toList.getD 3 0 = b3 at *
  have l0 := b0.toNat_lt
  have l2 := b2.toNat_lt
  have l3 := b3.toNat_lt
  have h1' : ¬ (24 : Int) < (b1.toNat : Nat) := by omega
  obtain ⟨r0, hr0⟩ : ∃ r, b0.toNat % 2 = r := ⟨_, rfl⟩
  obtain ⟨r1, hr1⟩ : ∃ r, b0.toNat / 2 % 2 = r := ⟨_, rfl⟩
  have a0 : bits .and .u8 (b0.toNat : Nat) 1 = (r0 : Nat) := by
    have := u8_and_nat b0.toNat 1 (by omega) (by decide)
    rw [show b0.toNat &&& 1 = b0.toNat % 2 from Nat.and_two_pow_sub_one_eq_mod _ 1, hr0] at this
    exact this
  have a1 : bits .and .u8 (b0.toNat : Nat) 2 = ((2 * r1 : Nat) : Int) := by
    have := u8_and_nat b0.toNat 2 (by omega) (by decide)
    have e : b0.toNat &&& 2 = 2 * r1 := by
      rw [← hr1]
      have e1 : b0.toNat &&& 2 = (b0.toNat &&& 3) - (b0.toNat &&& 1) := by
        generalize b0.toNat = x at *
        have : ∀ y : Fin 256, y.val &&& 2 = (y.val &&& 3) - (y.val &&& 1) := by decide
        exact this ⟨x, by omega⟩
      rw [e1, show b0.toNat &&& 3 = b0.toNat % 4 from Nat.and_two_pow_sub_one_eq_mod _ 2, show b0.toNat &&& 1 = b0.toNat % 2 from Nat.and_two_pow_sub_one_eq_mod _ 1]
      omega
    rw [e] at this
    exact this
  obtain ⟨F, hF⟩ : ∃ F, decide (r0 = 1) = F := ⟨_, rfl⟩
  obtain ⟨G, hG⟩ : ∃ G, decide (r1 = 1) = G := ⟨_, rfl⟩
  have a2 : (((r0 : Nat) : Int) != 0) = F := by
    rw [← hF, Bool.eq_iff_iff]
    simp
    omega
  obtain ⟨r2, hr2⟩ : ∃ r, 2 * r1 = r := ⟨_, rfl⟩
  have a3 : (((r2 : Nat) : Int) != 0) = G := by
    rw [← hG, Bool.eq_iff_iff]
    simp
    omega
  rw [hr2] at a1
  replace hr2 := Lib.hid hr2
  obtain ⟨m, hm⟩ : ∃ m, b2.toNat + 256 * b3.toNat = m := ⟨_, rfl⟩
  obtain ⟨q, hq⟩ : ∃ q, b3.toNat * 256 = q := ⟨_, rfl⟩
  have a4 : bits .or .i64 (b2.toNat : Nat) (q : Nat) = (m : Nat) := by
    rw [i64_or_nat _ _ (by omega) (by omega), ← hq, Nat.or_comm, or_byte _ _ l2, ← hm]
    omega
  have a5 : ((b3.toNat : Nat) : Int) * 256 = (q : Nat) := by omega
  obtain ⟨d, hd⟩ : ∃ d : ByteArray, s.extract 4 (4 + b1.toNat) = d := ⟨_, rfl⟩
  have hdl : d.data.toList = (s.data.toList.drop 4).take b1.toNat := by rw [← hd, ext_bs, bs_data, show 4 + b1.toNat - 4 = b1.toNat from by omega]
  have hds : d.size ≤ 24 := by rw [← dlen, hdl, List.length_take]; omega
  rw [hr0, hr1, hF, hG, hm, ← hdl] at hcell
  rw [hcell] at hrd
  have hmm : m ≤ 65535 := by omega
  clear hcell h1
  replace hr0 := Lib.hid hr0
  replace hr1 := Lib.hid hr1
  replace hF := Lib.hid hF
  replace hG := Lib.hid hG
  replace hm := Lib.hid hm
  replace hq := Lib.hid hq
  replace hdl := Lib.hid hdl
  have hsl : ∀ x : List UInt8, (((bs x).toList == s.toList) = true) ↔ x = s.data.toList := fun x => by
    rw [bs_toList, ByteArray.toList_eq]
    simp
  have hw1 : Blk (w.alloc (.cells #[.bool false, .bool false, .int .i64 0, .string ⟨#[]⟩] 196)) w.heap.size 196 (celV cel0) := Blk.new w _ _
  have hb1 : Below w.heap.size w (w.alloc (.cells #[.bool false, .bool false, .int .i64 0, .string ⟨#[]⟩] 196)) := (Below.refl _ _).alloc (Nat.le_refl _) _
  have hz1 : (w.alloc (.cells #[.bool false, .bool false, .int .i64 0, .string ⟨#[]⟩] 196)).heap.size = w.heap.size + 1 := by simp
  have hT1 := hT.below hb1 hT.pos
  have hbd : 4 + b1.toNat ≤ s.size := by omega
  have hrd' := hrd
  replace hrd := Lib.hid hrd
  replace hsl := Lib.hid hsl
  replace hT := Lib.hid hT
  clear hrd'
  go_enter Tryz.func129, Tryz.ntmps129
  go_wp2_with fail
  replace hT1 := Lib.hid hT1
  replace hb1 := Lib.hid hb1
  generalize w.alloc (.cells #[.bool false, .bool false, .int .i64 0, .string ⟨#[]⟩] 196) = w1 at *
  have hgl1 : w.heap.size < w1.heap.size := by omega
  have hxc := @Ext.cell
  have hxf := @Ext.frozen
  refine wp_hide (fun Q0 hQ0 => ?_)
  refine wp_region_line (fun w' => ∃ x : Ext _, w' = x.w) [some false, some false, some false, some false, some false, some false, some false, some false, some false, some false, some false, some false, some false, some false, some false, some false, some false, some false, some false, some false, some false, some false, some false, none, none] 1 (by kernel_rfl) (by kernel_rfl) ⟨⟨_, (Below.refl _ _).drew⟩, rfl⟩ ?_
  simp only [earlyL, tailL]
  repeat (first | ((with_reducible refine wpMix_p ?_); go_big_quiet_step (fail); refine wpQuiet_nil ?_) | ((with_reducible refine wpMix_e ?_); go_big_quiet_step ((first | fail)); refine wpQuiet_nil ?_))
  refine wpMix_nil ?_
  clear hxc hxf
  intro wx hwx
  obtain ⟨x, hx⟩ := hwx
  have hb := x.below
  rw [← hx] at hb
  clear hx x
  have hbs := hb.size
  have hw2 := hw1.below hb hw1.lt
  have hb2 := hb1.out.trans (hb.mono (by omega))
  have hT2 := hT.out.below hb2 hT.out.pos
  replace hw2 := Lib.hid hw2
  replace hb2 := Lib.hid hb2
  replace hT2 := Lib.hid hT2
  refine wpTail_step ?_
  intro Q1 hQ1
  go_wp2_with fail
  refine hQ1 _ _ rfl (fun _ => ⟨⟨_, hb.alloc hbs _⟩, rfl⟩) ?_
  clear hQ1 Q1
  have hbx := hb
  clear hb
  refine wpTail_step ?_
  intro Q1 hQ1
  go_wp2_with fail
  refine hQ1 _ _ rfl (fun h => absurd h (by decide)) ?_
  clear hQ1 Q1
  refine wpTail_nil ?_
  refine hQ0 _ _ ?_
  clear hQ0 Q0
  have hgl2 : w.heap.size < wx.heap.size := by omega
  have hw3 := hw2.out.alloc (.cells #[.bool F, .bool G, .int .i64 (m : Nat), .string d] 196)
  have hb3 := hb2.out.alloc (show w.heap.size ≤ wx.heap.size by omega) (.cells #[.bool F, .bool G, .int .i64 (m : Nat), .string d] 196)
  have hT3 := hT.out.below hb3 hT.out.pos
  have hz3 : (wx.alloc (.cells #[.bool F, .bool G, .int .i64 (m : Nat), .string d] 196)).heap.size = wx.heap.size + 1 := by simp
  cases hmay : mayC ⟨F, G, m, d.data.toList⟩ with
  | false =>
    have hmk := Make_bad F G m d (wx.alloc (.cells #[.bool F, .bool G, .int .i64 (m : Nat), .string d] 196)) (by omega) (by omega) hmay
    have hno : readC s.data.toList = none := by rw [hrd.out, if_neg (by rw [hmay]; simp)]
    replace hmk := Lib.hid hmk
    replace hno := Lib.hid hno
    replace hmay := Lib.hid hmay
    go_wp2_with fail
    refine hmk.out.mono ?_
    rintro e w4 ⟨rfl, hb4⟩
    have hw4 := hw3.below hb4 hw3.lt
    have hbw := hb3.trans (hb4.mono (by omega))
    have z0 : w4.cell? ⟨w.heap.size, 0, none⟩ = some (.bool false) := hw4.cell 0
    have z1 : w4.cell? ⟨w.heap.size, 1, none⟩ = some (.bool false) := hw4.cell 1
    have z2 : w4.cell? ⟨w.heap.size, 2, none⟩ = some (.int .i64 0) := hw4.cell 2
    have z3 : w4.cell? ⟨w.heap.size, 3, none⟩ = some (.string ⟨#[]⟩) := hw4.cell 3
    have y0 := hw4.frozen 0
    have y1 := hw4.frozen 1
    have y2 := hw4.frozen 2
    have y3 := hw4.frozen 3
    have zl := hw4.lt
    have hfin := cel_set hw4 rfl (.bool false) (.bool false) (.int .i64 0) (.string ⟨#[]⟩)
    replace hfin := Lib.hid hfin
    go_wp2_with fail
    exact bodyPost_ret (v := celO none) (results_blk_tmp rfl _ _ w.heap.size (.agg (celV cel0)) (.bool false) rfl rfl (load_cel hfin.out rfl)) rfl ⟨by rw [hno.out], (((hbw.setCell (Nat.le_refl _) _).setCell (Nat.le_refl _) _).setCell (Nat.le_refl _) _).setCell (Nat.le_refl _) _⟩
  | true =>
    have hmk := Make_ok hT3 F G m d hmm hds hmay
    replace hmk := Lib.hid hmk
    by_cases hsame : makeC ⟨F, G, m, d.data.toList⟩ = s.data.toList
    · have hyes : readC s.data.toList = some ⟨F, G, m, d.data.toList⟩ := by rw [hrd.out, if_pos ⟨hmay, hsame⟩]
      have heq : ((bs (makeC ⟨F, G, m, d.data.toList⟩)).toList == s.toList) = true := (hsl.out _).2 hsame
      replace hyes := Lib.hid hyes
      replace hmay := Lib.hid hmay
      replace hsame := Lib.hid hsame
      go_wp2_with fail
      refine hmk.out.mono ?_
      rintro e w4 ⟨rfl, hb4⟩
      have hw4 := hw3.below hb4 hw3.lt
      have hbw := hb3.trans (hb4.mono (by omega))
      have z0 : w4.cell? ⟨w.heap.size, 0, none⟩ = some (.bool false) := hw4.cell 0
      have z1 : w4.cell? ⟨w.heap.size, 1, none⟩ = some (.bool false) := hw4.cell 1
      have z2 : w4.cell? ⟨w.heap.size, 2, none⟩ = some (.int .i64 0) := hw4.cell 2
      have z3 : w4.cell? ⟨w.heap.size, 3, none⟩ = some (.string ⟨#[]⟩) := hw4.cell 3
      have y0 := hw4.frozen 0
      have y1 := hw4.frozen 1
      have y2 := hw4.frozen 2
      have y3 := hw4.frozen 3
      have zl := hw4.lt
      have hc4 := (Blk.new wx 196 #[.bool F, .bool G, .int .i64 (m : Nat), .string d]).below hb4 (by omega)
      have u0 : w4.cell? ⟨wx.heap.size, 0, none⟩ = some (.bool F) := hc4.cell 0
      have u1 : w4.cell? ⟨wx.heap.size, 1, none⟩ = some (.bool G) := hc4.cell 1
      have u2 : w4.cell? ⟨wx.heap.size, 2, none⟩ = some (.int .i64 (m : Nat)) := hc4.cell 2
      have u3 : w4.cell? ⟨wx.heap.size, 3, none⟩ = some (.string d) := hc4.cell 3
      have ul := hc4.lt
      have hfin := cel_set hw4 rfl (.bool F) (.bool G) (.int .i64 (m : Nat)) (.string d)
      replace hfin := Lib.hid hfin
      go_wp2_with fail
      exact bodyPost_ret (v := .tuple #[.agg #[.bool F, .bool G, .int .i64 (m : Nat), .string d], .bool true]) (results_blk_tmp rfl _ _ w.heap.size (.agg #[.bool F, .bool G, .int .i64 (m : Nat), .string d]) (.bool true) rfl rfl (load_cel hfin.out rfl)) rfl ⟨by rw [hyes.out]; unfold celO celV; simp only [Option.getD_some, bs_of]; rfl, (((hbw.setCell (Nat.le_refl _) _).setCell (Nat.le_refl _) _).setCell (Nat.le_refl _) _).setCell (Nat.le_refl _) _⟩
    · have hno : readC s.data.toList = none := by rw [hrd.out, if_neg (by rintro ⟨_, h2⟩; exact hsame h2)]
      have heq : ((bs (makeC ⟨F, G, m, d.data.toList⟩)).toList == s.toList) = false := by
        rw [Bool.eq_false_iff]
        exact fun h2 => hsame ((hsl.out _).1 h2)
      replace hno := Lib.hid hno
      replace hmay := Lib.hid hmay
      replace hsame := Lib.hid hsame
      go_wp2_with fail
      refine hmk.out.mono ?_
      rintro e w4 ⟨rfl, hb4⟩
      have hw4 := hw3.below hb4 hw3.lt
      have hbw := hb3.trans (hb4.mono (by omega))
      have z0 : w4.cell? ⟨w.heap.size, 0, none⟩ = some (.bool false) := hw4.cell 0
      have z1 : w4.cell? ⟨w.heap.size, 1, none⟩ = some (.bool false) := hw4.cell 1
      have z2 : w4.cell? ⟨w.heap.size, 2, none⟩ = some (.int .i64 0) := hw4.cell 2
      have z3 : w4.cell? ⟨w.heap.size, 3, none⟩ = some (.string ⟨#[]⟩) := hw4.cell 3
      have y0 := hw4.frozen 0
      have y1 := hw4.frozen 1
      have y2 := hw4.frozen 2
      have y3 := hw4.frozen 3
      have zl := hw4.lt
      have hfin := cel_set hw4 rfl (.bool false) (.bool false) (.int .i64 0) (.string ⟨#[]⟩)
      replace hfin := Lib.hid hfin
      go_wp2_with fail
      exact bodyPost_ret (v := celO none) (results_blk_tmp rfl _ _ w.heap.size (.agg (celV cel0)) (.bool false) rfl rfl (load_cel hfin.out rfl)) rfl ⟨by rw [hno.out], (((hbw.setCell (Nat.le_refl _) _).setCell (Nat.le_refl _) _).setCell (Nat.le_refl _) _).setCell (Nat.le_refl _) _⟩
/-- cell.Read. -/
theorem CRead_any {w : World} (hT : TabAt w) (s : ByteArray) (hs : s.size ≤ 1073741824) :
    Calls Tryz.prog 129 #[.string s] w fun e w' => e = .returned (celO (readC s.data.toList)) ∧ Below w.heap.size w w' := by
  by_cases h : s.size = 32
  · by_cases h1 : (s.data.toList.getD 1 0).toNat ≤ 24
    · exact CRead_main hT s h h1
    · have := CRead_great (w := w) s h (by omega)
      have e : readC s.data.toList = none := by unfold readC; rw [if_pos (.inr (by omega))]
      rw [e]
      exact this
  · have := CRead_short (w := w) s hs h
    have e : readC s.data.toList = none := by unfold readC; rw [if_pos (.inl (by rw [dlen]; exact h))]
    rw [e]
    exact this
theorem putF_len (r : List UInt8) : ∀ n, (putF n r).length ≤ 2 * r.length + 32 := by
  generalize hk : r.length = k
  induction k using Nat.strongRecOn generalizing r with
  | ind k ih =>
    intro n
    by_cases h : r.length ≤ 24
    · rw [putF_short h, makeC_len (by simpa using h)]
      omega
    · rw [putF_long (by omega), List.length_append, makeC_len (by simp; omega)]
      have := ih (r.drop 24).length (by rw [List.length_drop]; omega) (r.drop 24) rfl (n + 1)
      rw [List.length_drop] at this
      omega
set_option maxRecDepth 100000 in
set_option maxHeartbeats 4000000 in
theorem fput_any {w : World} {B b : Nat} {l : List UInt8} (hT : TabAt w) (hTB : 1 < B) (h : IsB B b l w) (hB : B ≤ w.heap.size) (r : ByteArray) (hr : r.size ≤ 524288) (hl : l.length ≤ 1099511627776) :
    Calls Tryz.prog 104 #[.pointer (some ⟨b, 0, none⟩), .string r] w fun e w' => e = .returned (.tuple #[]) ∧ IsB B b (l ++ frameL r.data.toList) w' ∧ Below B w w' := by
  have hT' := Lib.hid hT
  clear hT
  have hlen := putF_len r.data.toList 0
  rw [dlen] at hlen
  go_enter Tryz.func104, Tryz.ntmps104
  go_wp2_with fail
  go_loopw [1, 4, 5] (fun rv nv lv wr => ∃ (q : ByteArray) (n : Nat) (acc : List UInt8) (left : Bool), rv = .string q ∧ nv = .int .i64 (n : Nat) ∧ lv = .bool left ∧ IsB B b acc wr ∧ Below B w wr ∧
    q.size ≤ 524288 ∧
    (left = true → acc ++ putF n q.data.toList = l ++ frameL r.data.toList ∧ (n = 0 ∨ q.data.toList ≠ []) ∧ n * 24 + q.size ≤ 524288) ∧ (left = false → acc = l ++ frameL r.data.toList)) (fun rv _ lv _ => match lv, rv with | .bool true, .string q => q.size + 1 | _, _ => 0)
  case atStart => exact ⟨r, 0, l, true, rfl, rfl, rfl, h, Below.refl _ _, hr, fun _ => ⟨rfl, .inl rfl, by omega⟩, fun h => by cases h⟩
  case round =>
    obtain ⟨q, n, acc, left, rfl, rfl, rfl, hI, hbr, hq, h1, h2⟩ := hrel
    have hBr := Nat.le_trans hB hbr.size
    cases left with
    | false =>
      have h3 := h2 rfl
      clear h1 h2
      replace h3 := Lib.hid h3
      go_wp2_with fail
      go_end0
      exact ⟨rfl, by rw [← h3.out]; exact hI, hbr⟩
    | true =>
      obtain ⟨h3, h4, h5⟩ := h1 rfl
      clear h1 h2
      have hT1 := hT'.out.below hbr hTB
      obtain ⟨F, hF⟩ : ∃ F, decide (n = 0) = F := ⟨_, rfl⟩
      have hFI : (((n : Nat) : Int) == 0) = F := by
        rw [← hF, Bool.eq_iff_iff]
        simp
      have hle := congrArg List.length h3
      rw [List.length_append, List.length_append, show frameL r.data.toList = putF 0 r.data.toList from rfl] at hle
      replace hle : acc.length + (putF n q.data.toList).length ≤ 1100000000000 := by omega
      by_cases hs : q.size ≤ 24
      · have hmin : min ((q.size : Nat) : Int) 24 = (q.size : Nat) := by omega
        have hm := put_may (n := n) (r := q.data.toList) (by omega) h4 (by rw [dlen]; exact hs)
        have hpf := putF_short (n := n) (r := q.data.toList) (by rw [dlen]; exact hs)
        rw [hF] at hm hpf
        have hmk := Make_ok hT1 F true n q (by omega) hs hm
        have hml := makeC_len (mayC_data hm)
        rw [hpf] at h3 hle
        generalize makeC ⟨F, true, n, q.data.toList⟩ = mk at *
        replace hF := Lib.hid hF
        replace hm := Lib.hid hm
        replace h3 := Lib.hid h3
        replace h4 := Lib.hid h4
        replace hpf := Lib.hid hpf
        replace hmk := Lib.hid hmk
        go_wp2_with fail
        refine (hmk.out).mono ?_
        rintro e w1 ⟨rfl, hb1⟩
        have hz1 := hb1.size
        have hI1 := hI.below hb1
        have hwr := write_any B b acc (bs mk) w1 hI1 (by rw [bs_size]; omega) (by omega)
        rw [bs_data] at hwr
        replace hwr := Lib.hid hwr
        go_wp2_with fail
        refine hwr.out.mono ?_
        rintro e w2 ⟨rfl, hI2, hb2⟩
        have hbw2 := hbr.trans ((hb1.mono hBr).trans hb2)
        replace hI2 := Lib.hid hI2
        replace hbw2 := Lib.hid hbw2
        go_wp2_with fail
        exact ⟨⟨ByteArray.empty, n + 1, acc ++ mk, false, rfl, by go_num, rfl, hI2.out, hbw2.out, by decide, (fun h => by cases h), fun _ => h3.out⟩, by simp⟩
      · have hmin : min ((q.size : Nat) : Int) 24 = 24 := by omega
        obtain ⟨d, hd⟩ : ∃ d : ByteArray, q.extract 0 24 = d := ⟨_, rfl⟩
        obtain ⟨q2, hq2⟩ : ∃ d : ByteArray, q.extract 24 q.size = d := ⟨_, rfl⟩
        have hdl : d.data.toList = q.data.toList.take 24 := by rw [← hd, ext_bs, bs_data, List.drop_zero]
        have hql : q2.data.toList = q.data.toList.drop 24 := by rw [← hq2, ext_bs, bs_data, List.take_of_length_le (by rw [List.length_drop, dlen]; exact Nat.le_refl _)]
        have hds : d.size = 24 := by rw [← dlen, hdl, List.length_take, dlen]; omega
        have hqs : q2.size = q.size - 24 := by rw [← dlen, hql, List.length_drop, dlen]
        have hm := put_may2 (n := n) (r := q.data.toList) (by omega) (by rw [dlen]; omega)
        have hpf := putF_long (n := n) (r := q.data.toList) (by rw [dlen]; omega)
        rw [hF, ← hdl] at hm hpf
        rw [← hql] at hpf
        have hmk := Make_ok hT1 F false n d (by omega) (by omega) hm
        have hml := makeC_len (mayC_data hm)
        have hq0 : 24 ≤ q.size := by omega
        have hlt2 : (24 : Int) < (q.size : Nat) := by omega
        rw [hpf] at h3 hle
        rw [List.length_append] at hle
        generalize makeC ⟨F, false, n, d.data.toList⟩ = mk at *
        have hacc : acc.length + mk.length ≤ 1100000000000 := by omega
        clear hle
        have hne : q2.data.toList ≠ [] := by
          intro e
          have : q2.data.toList.length = 0 := by rw [e]; rfl
          rw [dlen] at this
          omega
        replace hF := Lib.hid hF
        replace hm := Lib.hid hm
        replace h3 := Lib.hid h3
        replace h4 := Lib.hid h4
        replace hpf := Lib.hid hpf
        replace hdl := Lib.hid hdl
        replace hql := Lib.hid hql
        replace hne := Lib.hid hne
        replace hqs := Lib.hid hqs
        clear hds
        replace hmk := Lib.hid hmk
        go_wp2_with fail
        refine (hmk.out).mono ?_
        rintro e w1 ⟨rfl, hb1⟩
        have hz1 := hb1.size
        have hI1 := hI.below hb1
        have hwr := write_any B b acc (bs mk) w1 hI1 (by rw [bs_size]; omega) (by omega)
        rw [bs_data] at hwr
        replace hwr := Lib.hid hwr
        go_wp2_with fail
        refine hwr.out.mono ?_
        rintro e w2 ⟨rfl, hI2, hb2⟩
        have hbw2 := hbr.trans ((hb1.mono hBr).trans hb2)
        replace hI2 := Lib.hid hI2
        replace hbw2 := Lib.hid hbw2
        go_wp2_with fail
        have hqs' := hqs.out
        exact ⟨⟨q2, n + 1, acc ++ mk, true, rfl, by go_num, rfl, hI2.out, hbw2.out, by omega, fun _ => ⟨by rw [List.append_assoc]; exact h3.out, .inr hne.out, by omega⟩, fun h => by cases h⟩, by simp only []; omega⟩
/-- frame.Write of one record, whose slice was just made. -/
theorem Write_one {w : World} (hT : TabAt w) (b : Nat) (x : ByteArray) (hb : b < w.heap.size) (hc : w.cell? ⟨b, 0, none⟩ = some (.string x)) (hx : x.size ≤ 524288) :
    Calls Tryz.prog 57 #[.slice (some ⟨b, 0, none⟩) 1 1] w fun e w' => e = .returned (.tuple #[.string (bs (frameL x.data.toList)), .int .i64 0]) ∧ Below w.heap.size w w' := by
  have hT' := Lib.hid hT
  have hput := fun (W : World) (hTW : TabAt W) (hI : IsB w.heap.size w.heap.size [] W) (hBW : w.heap.size ≤ W.heap.size) => fput_any hTW hT.pos hI hBW x hx (by simp)
  have hlen := putF_len x.data.toList 0
  have hx' : ¬ (524288 : Int) < (x.size : Nat) := by omega
  rw [dlen] at hlen
  simp only [List.nil_append] at hput
  replace hput := Lib.hid hput
  clear hT
  go_enter Tryz.func57, Tryz.ntmps57
  go_wp2_with fail
  go_loopw [9] (fun iv wr => (iv = .int .i64 0 ∧ IsB w.heap.size w.heap.size [] wr ∧ Below w.heap.size w wr) ∨ (iv = .int .i64 1 ∧ IsB w.heap.size w.heap.size (frameL x.data.toList) wr ∧ Below w.heap.size w wr)) (fun iv _ => 1 - (intOf iv).toNat)
  case atStart => exact .inl ⟨rfl, IsB.new w, (Below.refl _ _).alloc (Nat.le_refl _) _⟩
  case round =>
    rcases hrel with ⟨rfl, hI, hbr⟩ | ⟨rfl, hI, hbr⟩
    · have q0 := (hbr.cell (p := ⟨b, 0, none⟩) hb).trans hc
      have hp := hput.out wr (hT'.out.below hbr hT'.out.pos) hI hbr.size
      have hbl : b < wr.heap.size := by have := hbr.size; omega
      replace hp := Lib.hid hp
      go_wp2_with fail
      refine hp.out.mono ?_
      rintro e w2 ⟨rfl, hI2, hb2⟩
      have hb3 := hbr.trans hb2
      replace hI2 := Lib.hid hI2
      replace hb3 := Lib.hid hb3
      go_wp2_with fail
      exact ⟨.inr ⟨by go_num, hI2.out, hb3.out⟩, by simp [intOf]⟩
    · have hs := Tryz.Builder_String_any w.heap.size w.heap.size _ _ hI hbr.size
      replace hs := Lib.hid hs
      go_wp2_with fail
      refine hs.out.mono ?_
      rintro e w1 ⟨rfl, hb1⟩
      go_wp2_with fail
      go_ret2
      exact ⟨by simp [bs], hbr.trans hb1⟩
def Mv (w : World) (v v' : Value) : Prop := ∀ k, v'.ownBlock = some k → v.ownBlock = some k ∨ w.heap.size ≤ k
theorem Mv.nil (w : World) (v : Value) : Mv w v (.slice none 0 0) := fun k h => by cases h
theorem Mv.refl (w : World) (v : Value) : Mv w v v := fun k h => .inl h
def SBv (w : World) (b : Nat) (v : Value) (l : List UInt8) : Prop := (∃ p, (p = .pointer none ∨ p = .pointer (some ⟨b, 0, none⟩)) ∧ w.heap[b]? = some (.cells #[p, v] 169 (0, 0))) ∧ OwnB w 0 v l ∧ v.ownBlock ≠ some b
theorem SBv.lt {w : World} {b : Nat} {v : Value} {l : List UInt8} (h : SBv w b v l) : b < w.heap.size := by
  obtain ⟨⟨p, _, hb⟩, _⟩ := h
  rcases Nat.lt_or_ge b w.heap.size with h' | h'
  · exact h'
  · rw [Array.getElem?_eq_none h'] at hb; cases hb
theorem SBv.new (w : World) : SBv (w.alloc (.cells #[.pointer none, .slice none 0 0] 169)) w.heap.size (.slice none 0 0) [] :=
  ⟨⟨_, .inl rfl, heap_alloc_new w _⟩, OwnB.nil _ _, by simp [Value.ownBlock]⟩
theorem SBv.kept {w w' : World} {S : Nat → Prop} {b : Nat} {v : Value} {l : List UInt8} (h : SBv w b v l) (hk : KeptBut w w' S) (hb : ¬ S b) (hv : ∀ k, v.ownBlock = some k → ¬ S k) : SBv w' b v l := by
  have hlt := h.lt
  obtain ⟨⟨p, hp, hbk⟩, ho, hn⟩ := h
  exact ⟨⟨p, hp, (hk.block b hlt hb).trans hbk⟩, own_kept ho hk hv, hn⟩
theorem SBv.isB {w : World} {B b : Nat} {v : Value} {l : List UInt8} (h : SBv w b v l) (hB : B ≤ b) (hv : ∀ k, v.ownBlock = some k → B ≤ k) : IsB B b l w := by
  obtain ⟨⟨p, hp, hbk⟩, ho, hn⟩ := h
  have ho2 : w.ownsRow B 5 1 v (Lib.byteCells l).length (Lib.byteCells l) := by
    have e : Lib.byteCells l = l.map B8 := rfl
    rw [e, List.length_map]
    refine ⟨ho.1, ho.2.imp id ?_⟩
    rintro ⟨g, cap, cur, e1, h1, rest⟩
    exact ⟨g, cap, cur, e1, hv g (by rw [e1]; rfl), rest⟩
  rcases hp with rfl | rfl
  · exact .inl ⟨hB, v, hbk, ho2, hn⟩
  · exact .inr ⟨hB, v, hbk, ho2, hn⟩
theorem check_v {w : World} {b : Nat} {v : Value} {l : List UInt8} (h : SBv w b v l) :
    Calls Tryz.prog 139 #[.pointer (some ⟨b, 0, none⟩)] w fun e w' => e = .returned (.tuple #[]) ∧ w'.heap[b]? = some (.cells #[.pointer (some ⟨b, 0, none⟩), v] 169 (0, 0)) ∧ OwnB w' 0 v l ∧ KeptBut w w' (fun k => k = b) := by
  obtain ⟨⟨p, hp, hbk⟩, ho, hn⟩ := h
  have hB : Lib.IsBuilder 169 5 0 b (Lib.byteCells l) w := SBv.isB ⟨⟨p, hp, hbk⟩, ho, hn⟩ (Nat.zero_le _) (fun _ _ => Nat.zero_le _)
  rcases hp with rfl | rfl
  · have h0 : w.cell? ⟨b, 0, none⟩ = some (.pointer none) := by rw [Lib.cell_of_heap hbk]; rfl
    have h1 : w.shape? b = some (169, 2) := by simp [World.shape?, hbk]
    refine (copyCheck_fresh b w h0 h1 (Lib.frozen_of_heap hbk 0)).mono ?_
    rintro e w' ⟨rfl, rfl⟩
    have hk : KeptBut w (w.setCell ⟨b, 0, none⟩ (.pointer (some ⟨b, 0, none⟩))) (fun k => k = b) := (KeptBut.refl w _).then_set rfl
    refine ⟨rfl, ?_, own_kept ho hk (fun k e1 e2 => hn (by rw [e1, e2])), hk⟩
    have := Blk.set_ (show Blk w b 169 #[.pointer none, v] from hbk) 0 (.pointer (some ⟨b, 0, none⟩))
    simpa [Blk] using this
  · have h0 : w.cell? ⟨b, 0, none⟩ = some (.pointer (some ⟨b, 0, none⟩)) := by rw [Lib.cell_of_heap hbk]; rfl
    refine (copyCheck_used b w h0).mono ?_
    rintro e w' ⟨rfl, rfl⟩
    exact ⟨rfl, hbk, ho, KeptBut.refl _ _⟩
set_option maxHeartbeats 2000000 in
set_option maxRecDepth 100000 in
theorem write_v {w : World} {b : Nat} {v : Value} {l : List UInt8} (h : SBv w b v l) (s : List UInt8) (hlen : l.length + s.length ≤ 70368744177664) :
    Calls Tryz.prog 100 #[.pointer (some ⟨b, 0, none⟩), .string (bs s)] w fun e w' => e = .returned (.tuple #[.int .i64 s.length, .nilIface]) ∧ ∃ v', SBv w' b v' (l ++ s) ∧ Mv w v v' ∧ KeptBut w w' (fun k => k = b ∨ v.ownBlock = some k) := by
  obtain ⟨i0, hi, hz0, hz1, hz2⟩ := info_parts u8_info
  have hne := h.2.2
  have hsz : (bs s).size = s.length := bs_size s
  have hc := Lib.hid (check_v h)
  go_enter Tryz.func100, Tryz.ntmps100
  go_wp2_with fail
  refine hc.out.mono ?_
  rintro e w1 ⟨rfl, hbk, hown, hk1⟩
  have c0 : w1.cell? ⟨b, 0, none⟩ = some (.pointer (some ⟨b, 0, none⟩)) := by rw [Lib.cell_of_heap hbk]; rfl
  have c1 : w1.cell? ⟨b, 1, none⟩ = some v := by rw [Lib.cell_of_heap hbk]; rfl
  replace hown := Lib.hid hown
  obtain ⟨Av, nv, cv, rfl⟩ : ∃ A n c, v = .slice A n c := by
    rcases hown.out.2 with ⟨rfl, _⟩ | ⟨g, cap, cur, rfl, _⟩
    · exact ⟨_, _, _, rfl⟩
    · exact ⟨_, _, _, rfl⟩
  go_wp2_with (at_builtin; refine wpList_append_str rfl _ _ rfl 0 _ l rfl hown.out (bs s) rfl ?c3 (Nat.zero_le _) ?_)
  case c3 => rw [hsz]; omega
  intro v' w2 hown' hgrow hat
  rw [bs_data] at hown'
  obtain ⟨ao, n', cap, rfl⟩ : ∃ ao n' cap, v' = .slice ao n' cap := by
    rcases hown'.2 with ⟨hv, _⟩ | ⟨g, cap, cur, hv, _⟩
    · exact ⟨_, _, _, hv⟩
    · exact ⟨_, _, _, hv⟩
  have hlt : b < w1.heap.size := by
    rcases Nat.lt_or_ge b w1.heap.size with h' | h'
    · exact h'
    · rw [Array.getElem?_eq_none h'] at hbk; cases hbk
  have hb2 : Blk w2 b 169 #[.pointer (some ⟨b, 0, none⟩), .slice Av nv cv] := (hgrow.block b hlt (fun e => hne e.symm)).trans hbk
  have d0 : w2.cell? ⟨b, 0, none⟩ = some (.pointer (some ⟨b, 0, none⟩)) := hb2.cell 0
  have d1 : w2.cell? ⟨b, 1, none⟩ = some (.slice Av nv cv) := hb2.cell 1
  have f1 : w2.frozen? ⟨b, 1, none⟩ = false := hb2.frozen 1
  have hl2 := hb2.lt
  have hsz1 := hk1.size
  have hK : KeptBut w (w2.setCell ⟨b, 1, none⟩ (.slice ao n' cap)) (fun k => k = b ∨ (Value.slice Av nv cv).ownBlock = some k) :=
    ((hk1.mono (fun k _ e => .inl e)).then_grown hgrow (fun k e => .inr e)).then_set (.inl rfl)
  have hmv : Mv w (.slice Av nv cv) (.slice ao n' cap) := fun k e => (hat k e).imp id (fun e => by omega)
  have hne' : (Value.slice ao n' cap).ownBlock ≠ some b := fun e => by
    rcases hat b e with e1 | e1
    · exact hne e1
    · omega
  have hS : SBv (w2.setCell ⟨b, 1, none⟩ (.slice ao n' cap)) b (.slice ao n' cap) (l ++ s) := by
    refine ⟨⟨_, .inr rfl, ?_⟩, own_kept hown' ((KeptBut.refl w2 (fun k => k = b)).then_set rfl) (fun k e1 e2 => hne' (by rw [e1, e2])), hne'⟩
    have := hb2.set_ 1 (.slice ao n' cap)
    simpa [Blk] using this
  replace hS := Lib.hid hS
  replace hK := Lib.hid hK
  replace hmv := Lib.hid hmv
  replace hgrow := Lib.hid hgrow
  replace hat := Lib.hid hat
  clear hbk c0 c1 hc
  go_wp2
  go_ret2
  exact ⟨rfl, _, hS.out, hmv.out, hK.out⟩
theorem string_v {w : World} {B b : Nat} {v : Value} {l : List UInt8} (h : SBv w b v l) (hB : B ≤ b) (hv : ∀ k, v.ownBlock = some k → B ≤ k) :
    Calls Tryz.prog 103 #[.pointer (some ⟨b, 0, none⟩)] w fun e w' => e = .returned (.string (bs l)) ∧ Below B w w' :=
  Tryz.Builder_String_any B b l w (h.isB hB hv) (Nat.le_trans hB (Nat.le_of_lt h.lt))
theorem IsB.sb {B b : Nat} {l : List UInt8} {w : World} (h : IsB B b l w) : ∃ v, SBv w b v l ∧ B ≤ b ∧ ∀ k, v.ownBlock = some k → B ≤ k := by
  have hlt := h.lt
  rcases h with ⟨hB, v, hbk, hown, hne⟩ | ⟨hB, v, hbk, hown, hne⟩
  · exact ⟨v, ⟨⟨_, .inl rfl, hbk⟩, by
      have := own_base hown
      unfold OwnB
      rw [Lib.byteCells_length] at this
      exact this, hne⟩, hB, fun k hk => (own_lt hown k hk).1⟩
  · exact ⟨v, ⟨⟨_, .inr rfl, hbk⟩, by
      have := own_base hown
      unfold OwnB
      rw [Lib.byteCells_length] at this
      exact this, hne⟩, hB, fun k hk => (own_lt hown k hk).1⟩
/-- A builder is written to: nothing has turned but its own block and row. -/
theorem write_kept {B b : Nat} {l : List UInt8} {w : World} (h : IsB B b l w) (s : List UInt8) (hlen : l.length + s.length ≤ 70368744177664) :
    Calls Tryz.prog 100 #[.pointer (some ⟨b, 0, none⟩), .string (bs s)] w fun e w' => e = .returned (.tuple #[.int .i64 s.length, .nilIface]) ∧ IsB B b (l ++ s) w' ∧ Below B w w' ∧ ∀ g t cs, Blk w g t cs → t ≠ 169 → t ≠ 5 → Blk w' g t cs := by
  obtain ⟨v, hS, hB, hv⟩ := h.sb
  have hlt := hS.lt
  refine (write_v hS s hlen).mono ?_
  rintro e w' ⟨rfl, v', hS', hmv, hk⟩
  refine ⟨rfl, hS'.isB hB (fun k hk' => ?_), hk.below (fun k hk' => ?_) (by omega), fun g t cs hg h1 h2 => hg.keptB hk ?_⟩
  · rcases hmv k hk' with e | e
    · exact hv k e
    · omega
  · rcases hk' with e | e
    · omega
    · exact hv k e
  · obtain ⟨⟨p, _, hbk⟩, ho, _⟩ := hS
    rintro (e | e)
    · exact Blk.ne_ hg (show Blk w b 169 _ from hbk) h1 e
    · exact own_blk_ne ho hg (Ne.symm h2) e
theorem oneR_long {t : List UInt8} {n : Nat} {acc : List UInt8} {size : Nat} (h : 524288 < acc.length) : oneR t n acc size = none := by
  unfold oneR
  rw [dif_pos (.inr h)]
theorem oneR_num {t : List UInt8} {c : CelE} {n : Nat} {acc : List UInt8} {size : Nat} (h : readC (t.take 32) = some c) (hn : c.num ≠ n) : oneR t n acc size = none := by
  unfold oneR
  split
  · rfl
  · rw [h]
    simp only
    rw [if_pos hn]
def oneV (o : Option (List UInt8 × Nat)) : Value := .tuple #[.string (bs ((o.map (·.1)).getD [])), .int .i64 (((o.map (·.2)).getD 0 : Nat) : Int)]
theorem blen_any {B b : Nat} {l : List UInt8} {w : World} (h : IsB B b l w) : Calls Tryz.prog 128 #[.pointer (some ⟨b, 0, none⟩)] w fun e w' => e = .returned (.int .i64 (l.length : Nat)) ∧ w' = w := by
  have := Tryz.Builder_Len B b _ w h
  rw [Lib.byteCells_length] at this
  exact this
set_option maxRecDepth 100000 in
set_option maxHeartbeats 4000000 in
theorem fone_any {w : World} (hT : TabAt w) (s : ByteArray) (hs : s.size ≤ 1073741824) :
    Calls Tryz.prog 91 #[.string s] w fun e w' => e = .returned (oneV (oneR s.data.toList 0 [] 0)) ∧ Below w.heap.size w w' := by
  have hT' := Lib.hid hT
  clear hT
  go_enter Tryz.func91, Tryz.ntmps91
  go_wp2_with fail
  go_loopw [3, 5] (fun zv nv wr => ∃ (z n : Nat) (acc : List UInt8), zv = .int .i64 (z : Nat) ∧ nv = .int .i64 (n : Nat) ∧ IsB w.heap.size w.heap.size acc wr ∧ Below w.heap.size w wr ∧ z ≤ s.size ∧ acc.length ≤ z ∧ n ≤ z ∧ oneR (s.data.toList.drop z) n acc z = oneR s.data.toList 0 [] 0) (fun zv _ _ => s.size - (intOf zv).toNat)
  case atStart => exact ⟨0, 0, [], rfl, rfl, IsB.new w, (Below.refl _ _).alloc (Nat.le_refl _) _, by omega, by simp, Nat.le_refl _, rfl⟩
  case round =>
    obtain ⟨z, n, acc, rfl, rfl, hI, hbr, hz, ha, hnz, hone⟩ := hrel
    have hdr : (s.data.toList.drop z).length = s.size - z := by rw [List.length_drop, dlen]
    have hzr := hbr.size
    by_cases h32 : s.size < z + 32
    · have h32' : ¬ ((z : Int) + 32 ≤ (s.size : Nat)) := by omega
      have hno : oneR s.data.toList 0 [] 0 = none := by rw [← hone]; exact oneR_stop (by omega)
      replace hone := Lib.hid hone
      replace hno := Lib.hid hno
      go_wp2_with fail
      go_ret2
      exact ⟨by rw [hno.out]; rfl, hbr⟩
    · have h32' : ((z : Int) + 32 ≤ (s.size : Nat)) := by omega
      have hlen1 := blen_any hI
      by_cases hlong : 524288 < acc.length
      · have hl' : ¬ (((acc.length : Nat) : Int) ≤ 524288) := by omega
        have hno : oneR s.data.toList 0 [] 0 = none := by rw [← hone]; exact oneR_long hlong
        replace hone := Lib.hid hone
        replace hno := Lib.hid hno
        replace hlen1 := Lib.hid hlen1
        go_wp2_with (go_at_call 128; refine hlen1.out.mono ?_; rintro e w' ⟨rfl, rfl⟩)
        go_ret2
        exact ⟨by rw [hno.out]; rfl, hbr⟩
      · have hl' : (((acc.length : Nat) : Int) ≤ 524288) := by omega
        obtain ⟨x, hx⟩ : ∃ x : ByteArray, s.extract z (z + 32) = x := ⟨_, rfl⟩
        have hxl : x.data.toList = (s.data.toList.drop z).take 32 := by rw [← hx, ext_bs, bs_data, show z + 32 - z = 32 from by omega]
        have hxs : x.size = 32 := by rw [← dlen, hxl, List.length_take, hdr]; omega
        have hrd := CRead_any (hT'.out.below hbr hT'.out.pos) x (by omega)
        have hzs : z + 32 ≤ s.size := by omega
        clear hxs
        cases hc : readC x.data.toList with
        | none =>
          have hno : oneR s.data.toList 0 [] 0 = none := by rw [← hone]; exact oneR_none (by rw [← hxl]; exact hc)
          rw [hc] at hrd
          simp only [celO, celV, cel0, Option.getD_none, Option.isSome_none] at hrd
          replace hone := Lib.hid hone
          replace hno := Lib.hid hno
          replace hlen1 := Lib.hid hlen1
          replace hrd := Lib.hid hrd
          replace hxl := Lib.hid hxl
          replace hc := Lib.hid hc
          go_wp2_with (go_at_call 128; refine hlen1.out.mono ?_; rintro e w' ⟨rfl, rfl⟩)
          refine hrd.out.mono ?_
          rintro e w1 ⟨rfl, hb1⟩
          have hb2 := hbr.trans (hb1.mono hzr)
          replace hb2 := Lib.hid hb2
          go_wp2_with fail
          go_ret2
          exact ⟨by rw [hno.out]; rfl, hb2.out.alloc hb2.out.size _⟩
        | some c =>
          have hcs := readC_some hc
          have hdl := mayC_data hcs.1
          clear hcs
          rw [hxl] at hc
          rw [show readC x.data.toList = some c from by rw [hxl]; exact hc] at hrd
          simp only [celO, celV, Option.getD_some, Option.isSome_some] at hrd
          obtain ⟨cf, cl, cn, cd⟩ := c
          simp only at hrd hdl
          replace hlen1 := Lib.hid hlen1
          replace hrd := Lib.hid hrd
          replace hxl := Lib.hid hxl
          by_cases hn : cn = n
          · subst hn
            have hcell := oneR_cell (n := cn) (acc := acc) (size := z) (by rw [hdr]; omega) (by omega) hc rfl
            simp only [List.drop_drop] at hcell
            rw [hone] at hcell
            replace hone := Lib.hid hone
            replace hc := Lib.hid hc
            replace hcell := Lib.hid hcell
            go_wp2_with (go_at_call 128; refine hlen1.out.mono ?_; rintro e w' ⟨rfl, rfl⟩)
            refine hrd.out.mono ?_
            rintro e w1 ⟨rfl, hb1⟩
            have hb2 := hbr.trans (hb1.mono hzr)
            have hI1 := (hI.below hb1).below ((Below.refl _ _).alloc (Nat.le_refl _) (.cells #[.bool cf, .bool cl, .int .i64 (cn : Nat), .string (bs cd)] 196))
            have hz1 := hb1.size
            have hwr := write_kept hI1 cd (by omega)
            have hbk := Blk.new w1 196 #[.bool cf, .bool cl, .int .i64 (cn : Nat), .string (bs cd)]
            have hb3 := hb2.alloc hb2.size (.cells #[.bool cf, .bool cl, .int .i64 (cn : Nat), .string (bs cd)] 196)
            replace hwr := Lib.hid hwr
            replace hb2 := Lib.hid hb2
            replace hb3 := Lib.hid hb3
            replace hI1 := Lib.hid hI1
            clear hb1
            go_wp2_with fail
            refine hwr.out.mono ?_
            rintro e w2 ⟨rfl, hI2, hb4, hkp⟩
            have hbk2 := hkp _ _ _ hbk (by decide) (by decide)
            have u1 : w2.cell? ⟨w1.heap.size, 1, none⟩ = some (.bool cl) := hbk2.cell 1
            have ul := hbk2.lt
            have hb5 := hb3.out.trans hb4
            have hz5 := hb5.size
            replace hb5 := Lib.hid hb5
            clear hb4 hkp hbk hbk2
            cases cl with
            | false =>
              go_wp2_with fail
              refine ⟨⟨z + 32, cn + 1, acc ++ cd, by go_num, by go_num, hI2, hb5.out, by omega, by rw [List.length_append]; omega, by omega, ?_⟩, by simp [intOf]; omega⟩
              rw [hcell.out, if_neg (by simp)]
            | true =>
              have hlen2 := blen_any hI2
              by_cases hl2 : (acc ++ cd).length ≤ 524288
              · have hl2' : (((acc ++ cd).length : Nat) : Int) ≤ 524288 := by omega
                have hst := Tryz.Builder_String_any w.heap.size w.heap.size _ _ hI2 hz5
                have hyes : oneR s.data.toList 0 [] 0 = some (acc ++ cd, z + 32) := by rw [hcell.out, if_pos ⟨rfl, hl2⟩]
                generalize acc ++ cd = ac2 at *
                replace hyes := Lib.hid hyes
                replace hlen2 := Lib.hid hlen2
                replace hst := Lib.hid hst
                replace hI2 := Lib.hid hI2
                go_wp2_with (go_at_call 128; refine hlen2.out.mono ?_; rintro e w' ⟨rfl, rfl⟩)
                refine hst.out.mono ?_
                rintro e w3 ⟨rfl, hb6⟩
                have hb7 := hb5.out.trans hb6
                replace hb7 := Lib.hid hb7
                clear hb6
                go_wp2_with fail
                go_ret2
                exact ⟨by rw [hyes.out]; rfl, hb7.out⟩
              · have hl2' : ¬ ((((acc ++ cd).length : Nat) : Int) ≤ 524288) := by omega
                have hcn : oneR s.data.toList 0 [] 0 = oneR (s.data.toList.drop (z + 32)) (cn + 1) (acc ++ cd) (z + 32) := by rw [hcell.out, if_neg (by rintro ⟨_, h⟩; exact hl2 h)]
                have hal : (acc ++ cd).length ≤ z + 32 := by rw [List.length_append]; omega
                generalize acc ++ cd = ac2 at *
                replace hcn := Lib.hid hcn
                replace hlen2 := Lib.hid hlen2
                replace hI2 := Lib.hid hI2
                go_wp2_with (go_at_call 128; refine hlen2.out.mono ?_; rintro e w' ⟨rfl, rfl⟩)
                exact ⟨⟨z + 32, cn + 1, ac2, by go_num, by go_num, hI2.out, hb5.out, by omega, hal, by omega, hcn.out.symm⟩, by simp [intOf]; omega⟩
          · have hno : oneR s.data.toList 0 [] 0 = none := by rw [← hone]; exact oneR_num hc hn
            have hnI : ¬ ((cn : Nat) : Int) = (n : Nat) := by omega
            replace hone := Lib.hid hone
            replace hno := Lib.hid hno
            replace hc := Lib.hid hc
            go_wp2_with (go_at_call 128; refine hlen1.out.mono ?_; rintro e w' ⟨rfl, rfl⟩)
            refine hrd.out.mono ?_
            rintro e w1 ⟨rfl, hb1⟩
            have hb2 := hbr.trans (hb1.mono hzr)
            replace hb2 := Lib.hid hb2
            go_wp2_with fail
            go_ret2
            exact ⟨by rw [hno.out]; rfl, hb2.out.alloc hb2.out.size _⟩
theorem str_info : (Tryz.prog.info? 9).map (fun i => (i.zero, i.size, i.bytes)) = some (some (.string ⟨#[]⟩), 1, 16) := by kernel_rfl
def strsV (l : List (List UInt8)) : List Value := l.map fun r => .string (bs r)
theorem strsV_len (l : List (List UInt8)) : (strsV l).length = l.length := List.length_map _
def OwnS (w : World) (B : Nat) (v : Value) (l : List (List UInt8)) : Prop := w.ownsRow B 9 1 v l.length (strsV l)
theorem OwnS.below {w w' : World} {B : Nat} {v : Value} {l : List (List UInt8)} (h : OwnS w B v l) (hb : Below w.heap.size w w') : OwnS w' B v l := own_below h hb
theorem OwnS.lt {w : World} {B : Nat} {v : Value} {l : List (List UInt8)} (h : OwnS w B v l) : ∀ k, v.ownBlock = some k → B ≤ k ∧ k < w.heap.size := own_lt h
theorem new_str (w : World) (t : TypeId) (x : ByteArray) : Reads (w.alloc (.cells #[.string x] t)) (w.heap.size + 1) 1 (some ⟨w.heap.size, 0, none⟩) 1 [.string x] := by
  refine ⟨rfl, fun _ => ⟨_, rfl, by simp, fun j u hu => ?_⟩⟩
  cases j with
  | zero =>
    simp at hu
    subst hu
    simp only [Addr.add, if_true]
    rw [World.cell?_alloc_new]
    rfl
  | succ j => simp at hu
theorem OwnS.snoc {w : World} {B : Nat} {v : Value} {l : List (List UInt8)} {r : List UInt8} (h : w.ownsRow B 9 1 v (l.length + 1) (strsV l ++ [.string (bs r)])) : OwnS w B v (l ++ [r]) := by
  unfold OwnS strsV
  rw [List.length_append, List.map_append]
  exact h
theorem readF_size (t : List UInt8) : (readF t).2 ≤ t.length ∧ (readF t).1.length * 32 ≤ (readF t).2 := by
  generalize hk : t.length = k
  induction k using Nat.strongRecOn generalizing t with
  | ind k ih =>
    rcases ho : oneR t 0 [] 0 with _ | ⟨r, z⟩
    · rw [readF_none ho]
      exact ⟨Nat.zero_le _, Nat.le_refl _⟩
    · have hz := oneR_size t 0 [] 0 r z ho
      rw [readF_some ho]
      have := ih (t.drop z).length (by rw [List.length_drop]; omega) _ rfl
      rw [List.length_drop] at this
      simp only [List.length_cons]
      omega
set_option maxRecDepth 100000 in
set_option maxHeartbeats 4000000 in
theorem FRead_any {w : World} (hT : TabAt w) (s : ByteArray) (hs : s.size ≤ 1073741824) :
    Calls Tryz.prog 47 #[.string s] w fun e w' => ∃ v, e = .returned (.tuple #[v, .int .i64 ((readF s.data.toList).2 : Nat)]) ∧ OwnS w' w.heap.size v (readF s.data.toList).1 ∧ Below w.heap.size w w' := by
  have hT' := Lib.hid hT
  clear hT
  obtain ⟨i0, hi0, hz0, hz1, hz2⟩ := info_parts str_info
  go_enter Tryz.func47, Tryz.ntmps47
  go_wp2_with fail
  go_loopw [2, 3] (fun v kv wr => ∃ (k : Nat) (rs : List (List UInt8)), kv = .int .i64 (k : Nat) ∧ OwnS wr w.heap.size v rs ∧ Below w.heap.size w wr ∧ k ≤ s.size ∧ rs.length * 32 ≤ k ∧ readF s.data.toList = (rs ++ (readF (s.data.toList.drop k)).1, k + (readF (s.data.toList.drop k)).2)) (fun _ kv _ => s.size - (intOf kv).toNat)
  case atStart => exact ⟨0, [], rfl, World.ownsRow_nil _ _ _ 1, Below.refl _ _, by omega, by simp, by simp⟩
  case round =>
    obtain ⟨k, rs, rfl, ho, hbr, hk, hrs, hrd⟩ := hrel
    have hzr := hbr.size
    obtain ⟨x, hx⟩ : ∃ x : ByteArray, s.extract k s.size = x := ⟨_, rfl⟩
    have hxl : x.data.toList = s.data.toList.drop k := by rw [← hx, ext_bs, bs_data, List.take_of_length_le (by rw [List.length_drop, dlen]; exact Nat.le_refl _)]
    have hxs : x.size = s.size - k := by rw [← dlen, hxl, List.length_drop, dlen]
    have hone := fone_any (hT'.out.below hbr hT'.out.pos) x (by omega)
    rcases hc : oneR x.data.toList 0 [] 0 with _ | ⟨r, z⟩
    · have hrf : readF s.data.toList = (rs, k) := by
        rw [hxl] at hc
        rw [hrd, readF_none hc]
        simp
      rw [hc] at hone
      simp only [oneV, Option.map_none, Option.getD_none] at hone
      replace hone := Lib.hid hone
      replace hrd := Lib.hid hrd
      replace hrf := Lib.hid hrf
      replace hc := Lib.hid hc
      replace hxl := Lib.hid hxl
      clear hxs
      go_wp2_with fail
      refine hone.out.mono ?_
      rintro e w1 ⟨rfl, hb1⟩
      go_wp2_with fail
      go_ret2
      rw [hrf.out]
      exact ⟨_, rfl, ho.below hb1, hbr.trans (hb1.mono hzr)⟩
    · have hz := oneR_size x.data.toList 0 [] 0 r z hc
      rw [dlen, hxs] at hz
      have hnext : readF s.data.toList = ((rs ++ [r]) ++ (readF (s.data.toList.drop (k + z))).1, (k + z) + (readF (s.data.toList.drop (k + z))).2) := by
        rw [hxl] at hc
        rw [hrd, readF_some hc, List.drop_drop]
        simp
        omega
      have hzI : ¬ ((z : Nat) : Int) = 0 := by omega
      rw [hc] at hone
      simp only [oneV, Option.map_some, Option.getD_some] at hone
      replace hone := Lib.hid hone
      replace hrd := Lib.hid hrd
      replace hnext := Lib.hid hnext
      replace hc := Lib.hid hc
      replace hxl := Lib.hid hxl
      clear hxs
      go_wp2_with fail
      refine hone.out.mono ?_
      rintro e w1 ⟨rfl, hb1⟩
      have ho1 := ho.below hb1
      have hb2 := hbr.trans (hb1.mono hzr)
      have hz1' := hb1.size
      replace hb2 := Lib.hid hb2
      clear hb1
      go_wp2_with (at_builtin; refine wpList_append_any _ rfl (.tmp 17) (.tmp 19) _ rfl w.heap.size 9 i0 _ 1 16 Tryz.underlying95 hi0 hz0 hz1 hz2 rfl (by omega) _ rs.length (strsV rs) rfl (World.ownsRow.alloc ho1 _) (w1.heap.size + 1) (some ⟨w1.heap.size, 0, none⟩) 1 1 [.string (bs r)] rfl ?c0 ?c1 ?c2 ?c3 ?c4 ?_; rotate_left 5; intro v2 w2 ho2 hg2 hat2)
      case c0 => exact new_str _ _ _
      case c1 => intro u hu; simp at hu; subst hu; rfl
      case c2 => simp only [maxLen]; omega
      case c3 => omega
      case c4 => simp; omega
      have ho3 := OwnS.snoc ho2
      have hb3 : Below w.heap.size w w2 := hb2.out.trans (((Below.refl _ _).alloc (by omega) _).grown hg2 (by simp; omega) (fun k hk => (ho1.lt k hk).1))
      replace ho3 := Lib.hid ho3
      replace hb3 := Lib.hid hb3
      clear ho2 hg2 hat2
      go_wp2_with fail
      exact ⟨⟨k + z, rs ++ [r], by go_num, ho3.out, hb3.out, by omega, by rw [List.length_append, List.length_singleton]; omega, hnext.out⟩, by simp [intOf]; omega⟩
theorem flat_get {T : Type} {f : T → List Value} {m : Nat} (hf : ∀ x, (f x).length = m) : ∀ (l : List T) (k : Nat) (x : T), l[k]? = some x → ∀ j u, (f x)[j]? = some u → (l.flatMap f)[k * m + j]? = some u
  | [], k, x, h => by simp at h
  | a :: l, 0, x, h => by
    intro j u hu
    simp at h
    subst h
    have hj : j < m := by rw [← hf a]; exact (List.getElem?_eq_some_iff.1 hu).1
    rw [List.flatMap_cons, List.getElem?_append_left (by rw [hf]; omega), Nat.zero_mul, Nat.zero_add, hu]
  | a :: l, k + 1, x, h => by
    intro j u hu
    have ih := flat_get hf l k x (by simpa using h) j u hu
    have e : (k + 1) * m + j = m + (k * m + j) := by rw [Nat.add_mul, Nat.one_mul]; omega
    rw [List.flatMap_cons, e, List.getElem?_append_right (by rw [hf]; omega), hf, Nat.add_sub_cancel_left]
    exact ih
theorem flat_size {T : Type} {f : T → List Value} {m : Nat} (hf : ∀ x, (f x).length = m) : ∀ l : List T, (l.flatMap f).length = l.length * m
  | [] => by simp
  | a :: l => by rw [List.flatMap_cons, List.length_append, hf, flat_size hf l, List.length_cons, Nat.add_mul]; omega
theorem at_plain {w : World} {a : Addr} {v : Value} (h : w.cell? (a.add 0) = some v) : ∃ b o, a = ⟨b, o, none⟩ := by
  obtain ⟨b, o, s⟩ := a
  cases s with
  | none => exact ⟨b, o, rfl⟩
  | some f =>
    exfalso
    unfold Addr.add World.cell? at h
    split at h <;> (try split at h) <;> simp_all
theorem add_flat (b o n : Nat) : (⟨b, o, none⟩ : Addr).add n = ⟨b, o + n, none⟩ := by unfold Addr.add; split <;> simp_all
theorem row_at {T : Type} {f : T → List Value} {m : Nat} (hf : ∀ x, (f x).length = m) (hm : 0 < m) {w : World} {B n : Nat} {A : Option Addr} {l : List T} (h : Reads w B m A n (l.flatMap f)) {k : Nat} {x : T} (hk : l[k]? = some x) :
    ∃ b o, A = some ⟨b, o, none⟩ ∧ b < B ∧ ∀ j u, (f x)[j]? = some u → w.cell? ⟨b, o + k * m + j, none⟩ = some u := by
  have hkl := (List.getElem?_eq_some_iff.1 hk).1
  have hn : 0 < n := by
    have := h.1
    rw [flat_size hf] at this
    have h2 : 0 < l.length * m := Nat.mul_pos (by omega) hm
    rw [this] at h2
    exact Nat.pos_of_mul_pos_right h2
  obtain ⟨ad, e, hB, hc⟩ := h.2 hn
  have h0 : ∃ u, (l.flatMap f)[0]? = some u := ⟨_, List.getElem?_eq_getElem (by rw [flat_size hf]; exact Nat.mul_pos (by omega) hm)⟩
  obtain ⟨u0, h0⟩ := h0
  obtain ⟨b, o, rfl⟩ := at_plain (hc 0 u0 h0)
  refine ⟨b, o, e, hB, fun j u hj => ?_⟩
  have := hc _ _ (flat_get hf l k x hk j u hj)
  rwa [add_flat, ← Nat.add_assoc] at this
def opL (o : OpE) : List Value := [.string (bs o.key), .string (bs o.value), .bool o.gone]
def opsV (l : List OpE) : List Value := l.flatMap opL
theorem opL_len (o : OpE) : (opL o).length = 3 := rfl
theorem opsV_len (l : List OpE) : (opsV l).length = l.length * 3 := flat_size opL_len l
def OpsR (w : World) (B : Nat) (A : Option Addr) (l : List OpE) : Prop := Reads w B 3 A l.length (opsV l)
theorem OpsR.below {w w' : World} {B C : Nat} {A : Option Addr} {l : List OpE} (h : OpsR w B A l) (hb : Below C w w') (hC : B ≤ C) : OpsR w' B A l := Reads.below h (hb.mono hC)
theorem OpsR.at_ {w : World} {B : Nat} {A : Option Addr} {l : List OpE} (h : OpsR w B A l) {k : Nat} {o : OpE} (hk : l[k]? = some o) :
    ∃ b p, A = some ⟨b, p, none⟩ ∧ b < B ∧ w.cell? ⟨b, p + k * 3, none⟩ = some (.string (bs o.key)) ∧ w.cell? ⟨b, p + k * 3 + 1, none⟩ = some (.string (bs o.value)) ∧ w.cell? ⟨b, p + k * 3 + 2, none⟩ = some (.bool o.gone) := by
  obtain ⟨b, p, e, hB, hc⟩ := row_at opL_len (by decide) h hk
  exact ⟨b, p, e, hB, hc 0 _ rfl, hc 1 _ rfl, hc 2 _ rfl⟩
set_option maxRecDepth 100000 in
set_option maxHeartbeats 1000000 in
theorem olong_any (o : OpE) (w : World) : Calls Tryz.prog 84 #[.agg #[.string (bs o.key), .string (bs o.value), .bool o.gone]] w fun e w' => e = .returned (.bool (longO o)) ∧ Below w.heap.size w w' := by
  have hB : ∀ ob, Below w.heap.size w (w.alloc ob) := fun ob => (Below.refl _ _).alloc (Nat.le_refl _) ob
  have e : longO o = (decide (64 < (bs o.key).size) || decide (512 < (bs o.value).size)) := by unfold longO; rw [bs_size, bs_size]
  rw [e]
  clear e
  generalize bs o.key = K at *
  generalize bs o.value = V at *
  obtain ⟨k, hk⟩ : ∃ k, K.size = k := ⟨_, rfl⟩
  obtain ⟨v, hv⟩ : ∃ k, V.size = k := ⟨_, rfl⟩
  rw [hk, hv]
  by_cases h1 : 64 < k
  · have h1' : (64 : Int) < k := by omega
    go_enter Tryz.func84, Tryz.ntmps84
    go_wp2
    go_ret
    exact ⟨by simp [h1], hB _⟩
  · have h1' : ¬ (64 : Int) < k := by omega
    by_cases h2 : 512 < v
    · have h2' : (512 : Int) < v := by omega
      go_enter Tryz.func84, Tryz.ntmps84
      go_wp2
      go_ret
      exact ⟨by simp [h2], hB _⟩
    · have h2' : ¬ (512 : Int) < v := by omega
      go_enter Tryz.func84, Tryz.ntmps84
      go_wp2
      go_ret
      exact ⟨by simp [h1, h2], hB _⟩
theorem isE (l : List UInt8) : (bs l).toList.isEmpty = decide (l = []) := by
  rw [bs_toList]
  cases l <;> simp
set_option maxRecDepth 100000 in
set_option maxHeartbeats 1000000 in
theorem obad_any (o : OpE) (w : World) : Calls Tryz.prog 86 #[.agg #[.string (bs o.key), .string (bs o.value), .bool o.gone]] w fun e w' => e = .returned (.bool (badO o)) ∧ Below w.heap.size w w' := by
  have hB : ∀ ob, Below w.heap.size w (w.alloc ob) := fun ob => (Below.refl _ _).alloc (Nat.le_refl _) ob
  have e : badO o = ((bs o.key).toList.isEmpty || (o.gone && !(bs o.value).toList.isEmpty)) := by unfold badO; rw [isE, isE]
  rw [e]
  clear e
  generalize bs o.key = K at *
  generalize bs o.value = V at *
  cases h1 : K.toList.isEmpty
  · cases o.gone
    · go_enter Tryz.func86, Tryz.ntmps86
      go_wp2
      go_ret
      exact ⟨rfl, hB _⟩
    · cases h2 : V.toList.isEmpty
      · go_enter Tryz.func86, Tryz.ntmps86
        go_wp2
        go_ret
        exact ⟨rfl, hB _⟩
      · go_enter Tryz.func86, Tryz.ntmps86
        go_wp2
        go_ret
        exact ⟨rfl, hB _⟩
  · go_enter Tryz.func86, Tryz.ntmps86
    go_wp2
    go_ret
    exact ⟨rfl, hB _⟩
set_option maxRecDepth 100000 in
set_option maxHeartbeats 2000000 in
theorem idx_long (A : Option Addr) (cap : Nat) (l : List OpE) (w : World) (hr : OpsR w w.heap.size A l) (hl : l.length ≤ 1073741824) :
    Calls Tryz.prog 124 #[.slice A l.length cap, .func (.func 84) #[] #[]] w fun e w' => ∃ r : Int, e = .returned (.int .i64 r) ∧ (r < 0 ↔ l.any longO = false) ∧ Below w.heap.size w w' := by
  replace hr := Lib.hid hr
  go_enter Tryz.func124, Tryz.ntmps124
  go_wp2_with fail
  go_loopw [8] (fun iv wr => ∃ k : Nat, k ≤ l.length ∧ iv = .int .i64 k ∧ (l.take k).any longO = false ∧ Below w.heap.size w wr) (fun iv _ => l.length - (intOf iv).toNat)
  case atStart => exact ⟨0, Nat.zero_le _, rfl, by simp, Below.refl _ _⟩
  case round =>
    obtain ⟨k, hk, rfl, hall, hbr⟩ := hrel
    have hzr := hbr.size
    by_cases hlt : k < l.length
    · have hlt' : (k : Int) < l.length := by omega
      obtain ⟨b, p, rfl, hbB, q0, q1, q2⟩ := (hr.out.below hbr (Nat.le_refl _)).at_ (List.getElem?_eq_getElem hlt)
      have hts : (l.take (k + 1)).any longO = ((l.take k).any longO || longO l[k]) := by rw [List.take_succ_eq_append_getElem hlt, List.any_append]; simp
      have hr1 := olong_any l[k]
      have hno : longO l[k] = true → l.any longO = true := by
        intro h
        rw [List.any_eq_true]
        exact ⟨l[k], List.getElem_mem hlt, h⟩
      generalize l[k] = o at *
      have hbl : b < wr.heap.size := by omega
      replace hno := Lib.hid hno
      replace hts := Lib.hid hts
      replace hall := Lib.hid hall
      replace hbr := Lib.hid hbr
      cases ho : longO o with
      | false =>
        rw [ho] at hr1
        replace ho := Lib.hid ho
        replace hr1 := Lib.hid hr1
        go_wp2_with fail
        refine (hr1.out _).mono ?_
        rintro e w1 ⟨rfl, hb1⟩
        have hb2 := hbr.out.trans (hb1.mono hzr)
        replace hb2 := Lib.hid hb2
        clear hb1
        go_wp2_with fail
        exact ⟨⟨k + 1, by omega, by go_num, by rw [hts.out, hall.out, ho.out]; rfl, hb2.out⟩, by simp [intOf]; omega⟩
      | true =>
        rw [ho] at hr1
        replace hr1 := Lib.hid hr1
        replace ho := Lib.hid ho
        go_wp2_with fail
        refine (hr1.out _).mono ?_
        rintro e w1 ⟨rfl, hb1⟩
        have hb2 := hbr.out.trans (hb1.mono hzr)
        replace hb2 := Lib.hid hb2
        clear hb1
        go_wp2_with fail
        go_ret
        exact ⟨k, rfl, by rw [hno.out ho.out]; simp, hb2.out⟩
    · obtain rfl : k = l.length := by omega
      rw [List.take_length] at hall
      replace hall := Lib.hid hall
      replace hbr := Lib.hid hbr
      go_wp2
      go_ret
      exact ⟨-1, rfl, by rw [hall.out]; simp, hbr.out⟩
theorem has_long (A : Option Addr) (cap : Nat) (l : List OpE) (w : World) (hr : OpsR w w.heap.size A l) (hl : l.length ≤ 1073741824) :
    Calls Tryz.prog 83 #[.slice A l.length cap, .func (.func 84) #[] #[]] w fun e w' => e = .returned (.bool (l.any longO)) ∧ Below w.heap.size w w' := by
  have hb := idx_long A cap l w hr hl
  replace hb := Lib.hid hb
  clear hr hl
  go_enter Tryz.func83, Tryz.ntmps83
  go_wp2_with fail
  refine hb.out.mono ?_
  rintro e w' ⟨r, rfl, hr, hbw⟩
  replace hr := Lib.hid hr
  go_wp2_with fail
  go_ret
  refine ⟨congrArg (fun b => Ending.returned (Value.bool b)) ?_, hbw⟩
  rw [Bool.eq_iff_iff]
  have := hr.out
  cases hq : l.any longO
  · have h2 := this.2 hq
    simp; omega
  · rw [hq] at this
    have h2 : ¬ r < 0 := fun h => by have := this.1 h; cases this
    simp; omega
set_option maxRecDepth 100000 in
set_option maxHeartbeats 2000000 in
theorem idx_bad (A : Option Addr) (cap : Nat) (l : List OpE) (w : World) (hr : OpsR w w.heap.size A l) (hl : l.length ≤ 1073741824) :
    Calls Tryz.prog 124 #[.slice A l.length cap, .func (.func 86) #[] #[]] w fun e w' => ∃ r : Int, e = .returned (.int .i64 r) ∧ (r < 0 ↔ l.any badO = false) ∧ Below w.heap.size w w' := by
  replace hr := Lib.hid hr
  go_enter Tryz.func124, Tryz.ntmps124
  go_wp2_with fail
  go_loopw [8] (fun iv wr => ∃ k : Nat, k ≤ l.length ∧ iv = .int .i64 k ∧ (l.take k).any badO = false ∧ Below w.heap.size w wr) (fun iv _ => l.length - (intOf iv).toNat)
  case atStart => exact ⟨0, Nat.zero_le _, rfl, by simp, Below.refl _ _⟩
  case round =>
    obtain ⟨k, hk, rfl, hall, hbr⟩ := hrel
    have hzr := hbr.size
    by_cases hlt : k < l.length
    · have hlt' : (k : Int) < l.length := by omega
      obtain ⟨b, p, rfl, hbB, q0, q1, q2⟩ := (hr.out.below hbr (Nat.le_refl _)).at_ (List.getElem?_eq_getElem hlt)
      have hts : (l.take (k + 1)).any badO = ((l.take k).any badO || badO l[k]) := by rw [List.take_succ_eq_append_getElem hlt, List.any_append]; simp
      have hr1 := obad_any l[k]
      have hno : badO l[k] = true → l.any badO = true := by
        intro h
        rw [List.any_eq_true]
        exact ⟨l[k], List.getElem_mem hlt, h⟩
      generalize l[k] = o at *
      have hbl : b < wr.heap.size := by omega
      replace hno := Lib.hid hno
      replace hts := Lib.hid hts
      replace hall := Lib.hid hall
      replace hbr := Lib.hid hbr
      cases ho : badO o with
      | false =>
        rw [ho] at hr1
        replace ho := Lib.hid ho
        replace hr1 := Lib.hid hr1
        go_wp2_with fail
        refine (hr1.out _).mono ?_
        rintro e w1 ⟨rfl, hb1⟩
        have hb2 := hbr.out.trans (hb1.mono hzr)
        replace hb2 := Lib.hid hb2
        clear hb1
        go_wp2_with fail
        exact ⟨⟨k + 1, by omega, by go_num, by rw [hts.out, hall.out, ho.out]; rfl, hb2.out⟩, by simp [intOf]; omega⟩
      | true =>
        rw [ho] at hr1
        replace hr1 := Lib.hid hr1
        replace ho := Lib.hid ho
        go_wp2_with fail
        refine (hr1.out _).mono ?_
        rintro e w1 ⟨rfl, hb1⟩
        have hb2 := hbr.out.trans (hb1.mono hzr)
        replace hb2 := Lib.hid hb2
        clear hb1
        go_wp2_with fail
        go_ret
        exact ⟨k, rfl, by rw [hno.out ho.out]; simp, hb2.out⟩
    · obtain rfl : k = l.length := by omega
      rw [List.take_length] at hall
      replace hall := Lib.hid hall
      replace hbr := Lib.hid hbr
      go_wp2
      go_ret
      exact ⟨-1, rfl, by rw [hall.out]; simp, hbr.out⟩
theorem has_bad (A : Option Addr) (cap : Nat) (l : List OpE) (w : World) (hr : OpsR w w.heap.size A l) (hl : l.length ≤ 1073741824) :
    Calls Tryz.prog 83 #[.slice A l.length cap, .func (.func 86) #[] #[]] w fun e w' => e = .returned (.bool (l.any badO)) ∧ Below w.heap.size w w' := by
  have hb := idx_bad A cap l w hr hl
  replace hb := Lib.hid hb
  clear hr hl
  go_enter Tryz.func83, Tryz.ntmps83
  go_wp2_with fail
  refine hb.out.mono ?_
  rintro e w' ⟨r, rfl, hr, hbw⟩
  replace hr := Lib.hid hr
  go_wp2_with fail
  go_ret
  refine ⟨congrArg (fun b => Ending.returned (Value.bool b)) ?_, hbw⟩
  rw [Bool.eq_iff_iff]
  have := hr.out
  cases hq : l.any badO
  · have h2 := this.2 hq
    simp; omega
  · rw [hq] at this
    have h2 : ¬ r < 0 := fun h => by have := this.1 h; cases this
    simp; omega
set_option maxRecDepth 100000 in
set_option maxHeartbeats 1000000 in
theorem Last_any (seq n : Nat) (A : Option Addr) (cap : Nat) (w : World) (h1 : (seq : Int) ≤ 9223372036854775808) (h2 : n ≤ 1073741824) (h0 : 1 ≤ seq) :
    Calls Tryz.prog 85 #[.agg #[.int .u64 (seq : Nat), .slice A n cap]] w fun e w' => e = .returned (.int .u64 ((seq + max n 1 - 1 : Nat) : Int)) ∧ Below w.heap.size w w' := by
  obtain ⟨m, hm⟩ : ∃ m, max n 1 = m := ⟨_, rfl⟩
  have hmI : max ((n : Nat) : Int) 1 = (m : Nat) := by omega
  have hm2 : m ≤ 1073741824 := by omega
  have hm1 : 1 ≤ m := by omega
  rw [hm]
  replace hm := Lib.hid hm
  have hB : ∀ ob, Below w.heap.size w (w.alloc ob) := fun ob => (Below.refl _ _).alloc (Nat.le_refl _) ob
  go_enter Tryz.func85, Tryz.ntmps85
  go_wp2
  go_ret
  exact ⟨congrArg (fun x => Ending.returned (Value.int .u64 x)) (by omega), hB _⟩
set_option maxRecDepth 100000 in
set_option maxHeartbeats 2000000 in
theorem Check_any (seq : Nat) (A : Option Addr) (cap : Nat) (b : List OpE) (w : World) (hs : seq < 18446744073709551616) (hr : OpsR w w.heap.size A b) (hl : b.length ≤ 1073741824) :
    Calls Tryz.prog 36 #[.agg #[.int .u64 (seq : Nat), .slice A b.length cap]] w fun e w' => e = .returned (.int .i64 (chkB ⟨seq, b⟩ : Nat)) ∧ Below w.heap.size w w' := by
  have hB : ∀ ob, Below w.heap.size w (w.alloc ob) := fun ob => (Below.refl _ _).alloc (Nat.le_refl _) ob
  have hsI : (seq : Int) < 18446744073709551616 := by omega
  have hchk : chkB ⟨seq, b⟩ = if 16 < b.length ∨ b.any longO = true then 3 else if b = [] ∨ seq = 0 ∨ 9223372036854775808 < seq ∨ 9223372036854775808 < seq + max b.length 1 - 1 ∨ b.any badO = true then 1 else 0 := rfl
  by_cases h1 : 16 < b.length
  · rw [hchk, if_pos (.inl h1)]
    have h1' : (16 : Int) < b.length := by omega
    clear hs hchk hr
    go_enter Tryz.func36, Tryz.ntmps36
    go_wp2_with fail
    go_ret
    exact ⟨rfl, hB _⟩
  · have h1' : ¬ (16 : Int) < b.length := by omega
    cases hlg : b.any longO with
    | true =>
      rw [hchk, if_pos (.inr hlg)]
      clear hs hchk
      have hb0 := hB (.cells #[.int .u64 (seq : Nat), .slice A b.length cap] 53)
      have hlong := has_long A cap b (w.alloc (.cells #[.int .u64 (seq : Nat), .slice A b.length cap] 53)) (Reads.more (hr.below hb0 (Nat.le_refl _)) (by simp)) (by omega)
      replace hlong := Lib.hid hlong
      go_enter Tryz.func36, Tryz.ntmps36
      go_wp2_with fail
      refine hlong.out.mono ?_
      rintro e w1 ⟨rfl, hb1⟩
      rw [hlg]
      have c0 : w1.cell? ⟨w.heap.size, 0, none⟩ = some (.int .u64 (seq : Nat)) := (hb1.cell (p := ⟨w.heap.size, 0, none⟩) (by simp)).trans (by simp [go_sem])
      have c1 : w1.cell? ⟨w.heap.size, 1, none⟩ = some (.slice A b.length cap) := (hb1.cell (p := ⟨w.heap.size, 1, none⟩) (by simp)).trans (by simp [go_sem])
      have hz1 := hb1.size
      simp at hz1
      have hgl : w.heap.size < w1.heap.size := by omega
      have hbw : Below w.heap.size w w1 := hb0.trans (hb1.mono (by simp))
      clear hb1
      replace hbw := Lib.hid hbw
      replace hlg := Lib.hid hlg
      go_wp2_with fail
      go_ret
      exact ⟨rfl, hbw.out⟩
    | false =>
      rw [if_neg (by rintro (h | h); exact h1 h; rw [hlg] at h; cases h)] at hchk
      by_cases h2 : b.length = 0
      · have h2l : b = [] := List.eq_nil_of_length_eq_zero h2
        rw [hchk, if_pos (.inl h2l)]
        clear hs hchk h2l
        have h2h : ((b.length : Nat) : Int) = 0 := by omega
        replace h2h := Lib.hid h2h
        replace h2 := Lib.hid h2
        have hb0 := hB (.cells #[.int .u64 (seq : Nat), .slice A b.length cap] 53)
        have hlong := has_long A cap b (w.alloc (.cells #[.int .u64 (seq : Nat), .slice A b.length cap] 53)) (Reads.more (hr.below hb0 (Nat.le_refl _)) (by simp)) (by omega)
        replace hlong := Lib.hid hlong
        go_enter Tryz.func36, Tryz.ntmps36
        go_wp2_with fail
        refine hlong.out.mono ?_
        rintro e w1 ⟨rfl, hb1⟩
        rw [hlg]
        have c0 : w1.cell? ⟨w.heap.size, 0, none⟩ = some (.int .u64 (seq : Nat)) := (hb1.cell (p := ⟨w.heap.size, 0, none⟩) (by simp)).trans (by simp [go_sem])
        have c1 : w1.cell? ⟨w.heap.size, 1, none⟩ = some (.slice A b.length cap) := (hb1.cell (p := ⟨w.heap.size, 1, none⟩) (by simp)).trans (by simp [go_sem])
        have hz1 := hb1.size
        simp at hz1
        have hgl : w.heap.size < w1.heap.size := by omega
        have hbw : Below w.heap.size w w1 := hb0.trans (hb1.mono (by simp))
        clear hb1
        replace hbw := Lib.hid hbw
        have h2' := h2h.out
        replace hlg := Lib.hid hlg
        generalize b.length = n at *
        go_wp2_with fail
        go_ret
        exact ⟨rfl, hbw.out⟩
      · have h2' : ¬ ((b.length : Nat) : Int) = 0 := by omega
        have h2l : b ≠ [] := by rintro rfl; exact h2 rfl
        by_cases h3 : seq = 0
        · rw [hchk, if_pos (.inr (.inl h3))]
          have h3h : ((seq : Nat) : Int) = 0 := by omega
          replace h3h := Lib.hid h3h
          replace h3 := Lib.hid h3
          clear hs hchk
          have hb0 := hB (.cells #[.int .u64 (seq : Nat), .slice A b.length cap] 53)
          have hlong := has_long A cap b (w.alloc (.cells #[.int .u64 (seq : Nat), .slice A b.length cap] 53)) (Reads.more (hr.below hb0 (Nat.le_refl _)) (by simp)) (by omega)
          replace hlong := Lib.hid hlong
          go_enter Tryz.func36, Tryz.ntmps36
          go_wp2_with fail
          refine hlong.out.mono ?_
          rintro e w1 ⟨rfl, hb1⟩
          rw [hlg]
          have c0 : w1.cell? ⟨w.heap.size, 0, none⟩ = some (.int .u64 (seq : Nat)) := (hb1.cell (p := ⟨w.heap.size, 0, none⟩) (by simp)).trans (by simp [go_sem])
          have c1 : w1.cell? ⟨w.heap.size, 1, none⟩ = some (.slice A b.length cap) := (hb1.cell (p := ⟨w.heap.size, 1, none⟩) (by simp)).trans (by simp [go_sem])
          have hz1 := hb1.size
          simp at hz1
          have hgl : w.heap.size < w1.heap.size := by omega
          have hbw : Below w.heap.size w w1 := hb0.trans (hb1.mono (by simp))
          clear hb1
          replace hbw := Lib.hid hbw
          have h3' := h3h.out
          replace hlg := Lib.hid hlg
          generalize b.length = n at *
          go_wp2_with fail
          go_ret
          exact ⟨rfl, hbw.out⟩
        · have h3' : ¬ ((seq : Nat) : Int) = 0 := by omega
          by_cases h4 : (9223372036854775808 : Int) < seq
          · rw [hchk, if_pos (.inr (.inr (.inl (by omega))))]
            clear hs hchk
            have hb0 := hB (.cells #[.int .u64 (seq : Nat), .slice A b.length cap] 53)
            have hlong := has_long A cap b (w.alloc (.cells #[.int .u64 (seq : Nat), .slice A b.length cap] 53)) (Reads.more (hr.below hb0 (Nat.le_refl _)) (by simp)) (by omega)
            replace hlong := Lib.hid hlong
            go_enter Tryz.func36, Tryz.ntmps36
            go_wp2_with fail
            refine hlong.out.mono ?_
            rintro e w1 ⟨rfl, hb1⟩
            rw [hlg]
            have c0 : w1.cell? ⟨w.heap.size, 0, none⟩ = some (.int .u64 (seq : Nat)) := (hb1.cell (p := ⟨w.heap.size, 0, none⟩) (by simp)).trans (by simp [go_sem])
            have c1 : w1.cell? ⟨w.heap.size, 1, none⟩ = some (.slice A b.length cap) := (hb1.cell (p := ⟨w.heap.size, 1, none⟩) (by simp)).trans (by simp [go_sem])
            have hz1 := hb1.size
            simp at hz1
            have hgl : w.heap.size < w1.heap.size := by omega
            have hbw : Below w.heap.size w w1 := hb0.trans (hb1.mono (by simp))
            clear hb1
            replace hbw := Lib.hid hbw
            replace hlg := Lib.hid hlg
            generalize b.length = n at *
            go_wp2_with fail
            go_ret
            exact ⟨rfl, hbw.out⟩
          · have hlast := fun w => Last_any seq b.length A cap w (by omega) hl (by omega)
            obtain ⟨m, hm⟩ : ∃ m, seq + max b.length 1 - 1 = m := ⟨_, rfl⟩
            rw [hm] at hchk hlast
            by_cases h5 : (9223372036854775808 : Int) < m
            · rw [hchk, if_pos (.inr (.inr (.inr (.inl (by omega)))))]
              clear hs hchk hm
              replace hlast := Lib.hid hlast
              have hb0 := hB (.cells #[.int .u64 (seq : Nat), .slice A b.length cap] 53)
              have hlong := has_long A cap b (w.alloc (.cells #[.int .u64 (seq : Nat), .slice A b.length cap] 53)) (Reads.more (hr.below hb0 (Nat.le_refl _)) (by simp)) (by omega)
              replace hlong := Lib.hid hlong
              go_enter Tryz.func36, Tryz.ntmps36
              go_wp2_with fail
              refine hlong.out.mono ?_
              rintro e w1 ⟨rfl, hb1⟩
              rw [hlg]
              have c0 : w1.cell? ⟨w.heap.size, 0, none⟩ = some (.int .u64 (seq : Nat)) := (hb1.cell (p := ⟨w.heap.size, 0, none⟩) (by simp)).trans (by simp [go_sem])
              have c1 : w1.cell? ⟨w.heap.size, 1, none⟩ = some (.slice A b.length cap) := (hb1.cell (p := ⟨w.heap.size, 1, none⟩) (by simp)).trans (by simp [go_sem])
              have hz1 := hb1.size
              simp at hz1
              have hgl : w.heap.size < w1.heap.size := by omega
              have hbw : Below w.heap.size w w1 := hb0.trans (hb1.mono (by simp))
              clear hb1
              replace hbw := Lib.hid hbw
              replace hlg := Lib.hid hlg
              generalize b.length = n at *
              go_wp2_with fail
              refine (hlast.out _).mono ?_
              rintro e w2 ⟨rfl, hb2⟩
              have hbw2 := hbw.out.trans (hb2.mono (by omega))
              replace hbw2 := Lib.hid hbw2
              clear hb2
              go_wp2_with fail
              go_ret
              exact ⟨rfl, hbw2.out⟩
            · have hfin : chkB ⟨seq, b⟩ = if b.any badO = true then 1 else 0 := by
                rw [hchk]
                have n3 : ¬ 9223372036854775808 < seq := by omega
                have n4 : ¬ 9223372036854775808 < m := by omega
                simp only [h2l, h3, n3, n4, false_or]
              clear hs hchk hm
              cases hbd : b.any badO with
              | true =>
                rw [hfin, hbd]
                clear hfin
                replace hlast := Lib.hid hlast
                have hb0 := hB (.cells #[.int .u64 (seq : Nat), .slice A b.length cap] 53)
                have hlong := has_long A cap b (w.alloc (.cells #[.int .u64 (seq : Nat), .slice A b.length cap] 53)) (Reads.more (hr.below hb0 (Nat.le_refl _)) (by simp)) (by omega)
                replace hlong := Lib.hid hlong
                go_enter Tryz.func36, Tryz.ntmps36
                go_wp2_with fail
                refine hlong.out.mono ?_
                rintro e w1 ⟨rfl, hb1⟩
                rw [hlg]
                have c0 : w1.cell? ⟨w.heap.size, 0, none⟩ = some (.int .u64 (seq : Nat)) := (hb1.cell (p := ⟨w.heap.size, 0, none⟩) (by simp)).trans (by simp [go_sem])
                have c1 : w1.cell? ⟨w.heap.size, 1, none⟩ = some (.slice A b.length cap) := (hb1.cell (p := ⟨w.heap.size, 1, none⟩) (by simp)).trans (by simp [go_sem])
                have hz1 := hb1.size
                simp at hz1
                have hgl : w.heap.size < w1.heap.size := by omega
                have hbw : Below w.heap.size w w1 := hb0.trans (hb1.mono (by simp))
                clear hb1
                replace hbw := Lib.hid hbw
                have hrs := hr
                replace hlg := Lib.hid hlg
                go_wp2_with fail
                refine (hlast.out _).mono ?_
                rintro e w2 ⟨rfl, hb2⟩
                have hbw2 := hbw.out.trans (hb2.mono (by omega))
                have hz2 := hb2.size
                have d1 := (hb2.cell (p := ⟨w.heap.size, 1, none⟩) hgl).trans c1
                have hgl2 : w.heap.size < w2.heap.size := by omega
                have hbad := has_bad A cap b w2 (Reads.more (hrs.below hbw2 (Nat.le_refl _)) (by omega)) (by omega)
                rw [hbd] at hbad
                replace hbw2 := Lib.hid hbw2
                replace hbad := Lib.hid hbad
                replace hbd := Lib.hid hbd
                clear hb2
                go_wp2_with fail
                refine hbad.out.mono ?_
                rintro e w3 ⟨rfl, hb3⟩
                have hbw3 := hbw2.out.trans (hb3.mono (by omega))
                replace hbw3 := Lib.hid hbw3
                clear hb3 hsI hl h1 h2 h2l h3 hlast hlong c0 c1 d1 hb0 hbad
                go_wp2_with fail
                all_goals go_ret
                all_goals first | exact ⟨rfl, hbw3.out⟩ | (exfalso; have hbo := hbd.out; simp_all; done) | (exfalso; simp_all; omega)
              | false =>
                rw [hfin, hbd]
                clear hfin
                replace hlast := Lib.hid hlast
                have hb0 := hB (.cells #[.int .u64 (seq : Nat), .slice A b.length cap] 53)
                have hlong := has_long A cap b (w.alloc (.cells #[.int .u64 (seq : Nat), .slice A b.length cap] 53)) (Reads.more (hr.below hb0 (Nat.le_refl _)) (by simp)) (by omega)
                replace hlong := Lib.hid hlong
                go_enter Tryz.func36, Tryz.ntmps36
                go_wp2_with fail
                refine hlong.out.mono ?_
                rintro e w1 ⟨rfl, hb1⟩
                rw [hlg]
                have c0 : w1.cell? ⟨w.heap.size, 0, none⟩ = some (.int .u64 (seq : Nat)) := (hb1.cell (p := ⟨w.heap.size, 0, none⟩) (by simp)).trans (by simp [go_sem])
                have c1 : w1.cell? ⟨w.heap.size, 1, none⟩ = some (.slice A b.length cap) := (hb1.cell (p := ⟨w.heap.size, 1, none⟩) (by simp)).trans (by simp [go_sem])
                have hz1 := hb1.size
                simp at hz1
                have hgl : w.heap.size < w1.heap.size := by omega
                have hbw : Below w.heap.size w w1 := hb0.trans (hb1.mono (by simp))
                clear hb1
                replace hbw := Lib.hid hbw
                have hrs := hr
                replace hlg := Lib.hid hlg
                go_wp2_with fail
                refine (hlast.out _).mono ?_
                rintro e w2 ⟨rfl, hb2⟩
                have hbw2 := hbw.out.trans (hb2.mono (by omega))
                have hz2 := hb2.size
                have d1 := (hb2.cell (p := ⟨w.heap.size, 1, none⟩) hgl).trans c1
                have hgl2 : w.heap.size < w2.heap.size := by omega
                have hbad := has_bad A cap b w2 (Reads.more (hrs.below hbw2 (Nat.le_refl _)) (by omega)) (by omega)
                rw [hbd] at hbad
                replace hbw2 := Lib.hid hbw2
                replace hbad := Lib.hid hbad
                replace hbd := Lib.hid hbd
                clear hb2
                go_wp2_with fail
                refine hbad.out.mono ?_
                rintro e w3 ⟨rfl, hb3⟩
                have hbw3 := hbw2.out.trans (hb3.mono (by omega))
                replace hbw3 := Lib.hid hbw3
                clear hb3 hsI hl h1 h2 h2l h3 hlast hlong c0 c1 d1 hb0 hbad
                go_wp2_with fail
                all_goals go_ret
                all_goals first | exact ⟨rfl, hbw3.out⟩ | (exfalso; have hbo := hbd.out; simp_all; done) | (exfalso; simp_all; omega)
end Go.Proofs.YtdbpfemkjfogoaaGreatDoor
