/- Contracts of package wal: none, N, Begin, Add. Contracts of package wal: Replay. Contracts of package wal: Replay. Package wal, plain: rounds, one behind the other: what is replayed is what was told OK, and perhaps what was under way (WalLasts' plain law). No program in sight. Package wal, plain: logs' names rise as their numbers do. No program in sight. Contracts of the law: next. Contracts of package wal: Add. Contracts: an act in memory; Does. Contracts: Great, GreatCrash. The law's rounds in memory: what is kept along a round. Package wal, plain: logs retired, and what is replayed from a number on (WalParts' plain law). No program in sight. Package wal, plain: a batch that finds no room changes nothing (WalFull's plain law). No program in sight. -/
import Derived.Test.YtdbpfemkjfogoaaGreatDoorW0J
import Derived.Test.YtdbpfemkjfogoaaGreatDoorM14
import Derived.Test.YtdbpfemkjfogoaaGreatDoorM13
import Derived.Test.YtdbpfemkjfogoaaGreatDoorM11
import Derived.Laws.EntriesVeiled
import Derived.Test.YtdbpfemkjfogoaaGreatDoorDAwkJ
namespace Go.Proofs.YtdbpfemkjfogoaaGreatDoor
open Go.RowKit
set_option linter.unusedVariables false
set_option linter.unusedSimpArgs false
/-- A log. -/
def LogAt (w : World) (lg d n : Nat) : Prop := Blk w lg 115 #[.int .u64 (n : Nat), .func (.func 53) #[.pointer (some ⟨d, 0, none⟩)] #[], .func (.func 54) #[.pointer (some ⟨d, 0, none⟩)] #[]]
set_option maxRecDepth 100000 in
set_option maxHeartbeats 400000 in
theorem lnone_any {w : World} {lg d n : Nat} (h : LogAt w lg d n) :
    Calls Tryz.prog 55 #[.pointer (some ⟨lg, 0, none⟩)] w fun e w' => e = .returned (.bool false) ∧ w = w' := by
  have c1 : w.cell? ⟨lg, 1, none⟩ = some (.func (.func 53) #[.pointer (some ⟨d, 0, none⟩)] #[]) := Blk.cell h 1
  have eF : ∀ w, (binOp .eql 113 (.func (.func 53) #[.pointer (some ⟨d, 0, none⟩)] #[]) .nilFunc).run Tryz.prog w = .ok (.bool false) w := fun w => by kernel_rfl
  go_enter Tryz.func55, Tryz.ntmps55
  go_wp2
  go_ret
  exact ⟨rfl, rfl⟩
set_option maxHeartbeats 400000 in
theorem lnone_nil (w : World) : Calls Tryz.prog 55 #[.pointer none] w fun e w' => e = .returned (.bool true) ∧ w = w' := by
  go_enter Tryz.func55, Tryz.ntmps55
  go_wp2
  go_ret
  exact ⟨rfl, rfl⟩
set_option maxHeartbeats 400000 in
theorem LN_any {w : World} {lg d n : Nat} (h : LogAt w lg d n) :
    Calls Tryz.prog 22 #[.pointer (some ⟨lg, 0, none⟩)] w fun e w' => e = .returned (.int .u64 (n : Nat)) ∧ w = w' := by
  have c0 := Blk.cell h 0
  have hn := Lib.hid (lnone_any h)
  go_enter Tryz.func22, Tryz.ntmps22
  go_wp2_with fail
  refine hn.out.mono ?_
  rintro e w' ⟨rfl, rfl⟩
  go_wp2_with fail
  go_ret
  exact ⟨rfl, rfl⟩
set_option maxHeartbeats 400000 in
theorem LN_nil (w : World) : Calls Tryz.prog 22 #[.pointer none] w fun e w' => e = .returned (.int .u64 0) ∧ w = w' := by
  have hn := Lib.hid (lnone_nil w)
  go_enter Tryz.func22, Tryz.ntmps22
  go_wp2_with fail
  refine hn.out.mono ?_
  rintro e w' ⟨rfl, rfl⟩
  go_wp2_with fail
  go_ret
  exact ⟨rfl, rfl⟩
theorem log_name (n : Nat) (hn : n < 18446744073709551616) (w : World) (hg : Glo w) :
    Calls Tryz.prog 51 #[.string ⟨#[108, 111, 103]⟩, .int .u64 (n : Nat)] w fun e w' => e = .returned (.string (bs (nameW n))) ∧ Below w.heap.size w w' := Name_any ⟨#[108, 111, 103]⟩ n (by decide) hn w hg.five.tab
theorem nameW_len {n : Nat} (hn : n < 18446744073709551616) : (nameW n).length ≤ 24 := by
  have := rightB_nameW hn
  unfold rightB at this
  simp only [Bool.and_eq_true, decide_eq_true_eq] at this
  exact this.1.2
theorem Dsk.Good.beginW {s : Dsk} {m : Nat} (g : s.Good m) (n : Nat) : (s.beginW n).1.Good (m + 2) := by
  unfold Dsk.beginW
  split
  · exact (g.create _).dirsync
  · exact (g.create _).more (by omega)
theorem Dsk.Good.addW {s : Dsk} {m : Nat} (g : s.Good m) (n : Nat) (b : BatE) : (s.addW n b).1.Good (m + 2) := by
  unfold Dsk.addW
  split
  · split
    · exact (g.append _ _).sync _
    · exact (g.append _ _).more (by omega)
  · exact g.more (by omega)
/-- What Begin tells. -/
def BegV (o : Dsk × Nat) (X : Nat → Prop) (d n : Nat) (w : World) (e : Ending) (w' : World) : Prop :=
  (o.2 = 0 ∧ ∃ lg, e = .returned (.tuple #[.pointer (some ⟨lg, 0, none⟩), .int .i64 0]) ∧ LogAt w' lg d n ∧ w.heap.size ≤ lg ∧ Dx (fun k => X k ∨ k = lg) w' d o.1) ∨
  (o.2 ≠ 0 ∧ e = .returned (.tuple #[.pointer none, .int .i64 (o.2 : Nat)]) ∧ Dx X w' d o.1)
set_option maxRecDepth 100000 in
set_option maxHeartbeats 2000000 in
theorem Begin_any {X : Nat → Prop} {w : World} {d : Nat} {s : Dsk} {m : Nat} (h : Dx X w d s) (hX : ∀ k, X k → k < w.heap.size) (hX7 : ∀ k, k < 7 → X k) (hG : Glo w) (g : s.Good m) (hm : m < 1000000000) (n : Nat) (hn : n < 18446744073709551616) :
    Calls Tryz.prog 18 #[.pointer (some ⟨d, 0, none⟩), .int .u64 (n : Nat)] w fun e w' => BegV (s.beginW n) X d n w e w' ∧ Keeps X w w' := by
  have hname := Lib.hid (log_name n hn w hG)
  have hnl := nameW_len hn
  have hbeg : s.beginW n = if (s.create (nameW n)).2 = 0 then (s.create (nameW n)).1.dirsync else s.create (nameW n) := rfl
  have hcr := fun (W : World) (hD : Dx X W d s) hXW => Create_dx hD hXW g (by omega) (bs (nameW n)) (by rw [bs_size]; omega)
  simp only [bs_data] at hcr
  have g1 := g.create (nameW n)
  generalize s.create (nameW n) = c at *
  obtain ⟨s1, e1⟩ := c
  simp only at hcr hbeg g1
  have hds := fun (W : World) (hD : Dx X W d s1) hXW => DirSync_dx hD hXW g1
  replace hcr := Lib.hid hcr
  replace hds := Lib.hid hds
  replace hG := Lib.hid hG
  clear hn
  by_cases h0 : e1 = 0
  · subst h0
    rw [if_pos rfl] at hbeg
    generalize s1.dirsync = c2 at *
    obtain ⟨s2, e2⟩ := c2
    simp only at hds
    rw [hbeg]
    clear hbeg
    by_cases h2 : e2 = 0
    · subst h2
      go_enter Tryz.func18, Tryz.ntmps18
      go_wp2_with fail
      refine hname.out.mono ?_
      rintro e w1 ⟨rfl, hb1⟩
      have hD1 := h.grow hb1 (Y := X) (fun k => .inl)
      have hX1 : ∀ k, X k → k < w1.heap.size := fun k hk => by have := hX k hk; have := hb1.size; omega
      have hk1 : Keeps X w w1 := Keeps.of_below hb1 hX
      have hc1 := Lib.hid (hcr.out w1 hD1 hX1)
      go_wp2_with fail
      refine hc1.out.mono ?_
      rintro e w2 ⟨rfl, hD2, hk2⟩
      have hX2 : ∀ k, X k → k < w2.heap.size := fun k hk => by have := hX1 k hk; have := hk2.size; omega
      have hc2 := Lib.hid (hds.out w2 hD2 hX2)
      go_wp2_with fail
      refine hc2.out.mono ?_
      rintro e w3 ⟨rfl, hD3, hk3⟩
      have hX3 : ∀ k, X k → k < w3.heap.size := fun k hk => by have := hX2 k hk; have := hk3.size; omega
      have hk := ((hk1.trans hk2 (fun _ => id)).trans hk3 (fun _ => id)).then_alloc hX3 (.cells #[.int .u64 (n : Nat), .func (.func 53) #[.pointer (some ⟨d, 0, none⟩)] #[], .func (.func 54) #[.pointer (some ⟨d, 0, none⟩)] #[]] 115)
      have hlog : LogAt (w3.alloc (.cells #[.int .u64 (n : Nat), .func (.func 53) #[.pointer (some ⟨d, 0, none⟩)] #[], .func (.func 54) #[.pointer (some ⟨d, 0, none⟩)] #[]] 115)) w3.heap.size d n := Blk.new _ _ _
      have hD4 : Dx (fun k => X k ∨ k = w3.heap.size) (w3.alloc (.cells #[.int .u64 (n : Nat), .func (.func 53) #[.pointer (some ⟨d, 0, none⟩)] #[], .func (.func 54) #[.pointer (some ⟨d, 0, none⟩)] #[]] 115)) d s2 := hD3.grow ((Below.refl _ _).alloc (Nat.le_refl _) _) (fun k hk => hk.imp id (fun e => by omega))
      have hz : w.heap.size ≤ w3.heap.size := by have := hb1.size; have := hk2.size; have := hk3.size; omega
      replace hk := Lib.hid hk
      replace hlog := Lib.hid hlog
      replace hD4 := Lib.hid hD4
      go_wp2_with fail
      go_ret2
      exact ⟨.inl ⟨rfl, _, rfl, hlog.out, hz, hD4.out⟩, hk.out⟩
    · have h2' : ¬ ((e2 : Nat) : Int) = 0 := by omega
      go_enter Tryz.func18, Tryz.ntmps18
      go_wp2_with fail
      refine hname.out.mono ?_
      rintro e w1 ⟨rfl, hb1⟩
      have hD1 := h.grow hb1 (Y := X) (fun k => .inl)
      have hX1 : ∀ k, X k → k < w1.heap.size := fun k hk => by have := hX k hk; have := hb1.size; omega
      have hk1 : Keeps X w w1 := Keeps.of_below hb1 hX
      have hc1 := Lib.hid (hcr.out w1 hD1 hX1)
      go_wp2_with fail
      refine hc1.out.mono ?_
      rintro e w2 ⟨rfl, hD2, hk2⟩
      have hX2 : ∀ k, X k → k < w2.heap.size := fun k hk => by have := hX1 k hk; have := hk2.size; omega
      have hc2 := Lib.hid (hds.out w2 hD2 hX2)
      go_wp2_with fail
      refine hc2.out.mono ?_
      rintro e w3 ⟨rfl, hD3, hk3⟩
      have hk := (hk1.trans hk2 (fun _ => id)).trans hk3 (fun _ => id)
      replace hk := Lib.hid hk
      go_wp2_with fail
      go_ret2
      exact ⟨.inr ⟨h2, rfl, hD3⟩, hk.out⟩
  · have h0' : ¬ ((e1 : Nat) : Int) = 0 := by omega
    rw [if_neg h0] at hbeg
    rw [hbeg]
    clear hbeg
    go_enter Tryz.func18, Tryz.ntmps18
    go_wp2_with fail
    refine hname.out.mono ?_
    rintro e w1 ⟨rfl, hb1⟩
    have hD1 := h.grow hb1 (Y := X) (fun k => .inl)
    have hX1 : ∀ k, X k → k < w1.heap.size := fun k hk => by have := hX k hk; have := hb1.size; omega
    have hk1 : Keeps X w w1 := Keeps.of_below hb1 hX
    have hc1 := Lib.hid (hcr.out w1 hD1 hX1)
    go_wp2_with fail
    refine hc1.out.mono ?_
    rintro e w2 ⟨rfl, hD2, hk2⟩
    have hk := hk1.trans hk2 (fun _ => id)
    replace hk := Lib.hid hk
    go_wp2_with fail
    go_ret2
    exact ⟨.inr ⟨h0, rfl, hD2⟩, hk.out⟩
set_option maxHeartbeats 400000 in
theorem rep1_any {w : World} {gf f : Nat} (h : Blk w gf 42 #[.int .u64 (f : Nat)]) (n : Nat) :
    Calls Tryz.prog 44 #[.int .u64 (n : Nat), .pointer (some ⟨gf, 0, none⟩)] w fun e w' => e = .returned (.bool (decide (f ≤ n))) ∧ w = w' := by
  have c0 : w.cell? ⟨gf, 0, none⟩ = some (.int .u64 (f : Nat)) := h.cell 0
  have hl := h.lt
  go_enter Tryz.func44, Tryz.ntmps44
  go_wp2
  go_ret
  exact ⟨by simp, rfl⟩
section
variable {s : Dsk} {m : Nat}
theorem Dsk.read_none (hne : ∀ p ∈ s.names, p.1 ≠ []) (hoff : s.off = false) : s.read [] = ([], 4) := by
  unfold Dsk.read
  rw [if_neg (by rw [hoff]; decide)]
  cases hg : getM [] s.names with
  | none => rfl
  | some i => exact absurd rfl (hne _ (getM_mem hg))
theorem Dsk.Good.read_log (g : s.Good m) (hoff : s.off = false) {n : Nat} (hn : n ∈ s.logsW) : ∃ data, s.read (nameW n) = (data, 0) ∧ data.length ≤ 1048576 ∧ n < 18446744073709551616 := by
  unfold Dsk.logsW at hn
  rw [(List.mergeSort_perm _ _).mem_iff, List.mem_filterMap] at hn
  obtain ⟨p, hp, hq⟩ := hn
  obtain ⟨e1, e2⟩ := numP_inv hq
  unfold Dsk.read
  rw [if_neg (by rw [hoff]; decide)]
  have e3 : nameW n = p.1 := e1.symm
  rw [e3]
  cases hg : getM p.1 s.names with
  | none => exact absurd rfl (getM_none hg p hp)
  | some i =>
    simp only
    have hi := (g.ok.names _ (getM_mem hg)).2
    simp only at hi
    rw [List.getElem?_eq_getElem hi]
    exact ⟨_, rfl, (g.ok.file _ (List.getElem_mem hi)).2, e2⟩
end
theorem rawW_len (s : Dsk) : s.rawW.length ≤ s.names.length := List.length_filterMap_le _ _
/-- What logs have, from a number on. -/
def haveL (s : Dsk) (f : Nat) (ns : List Nat) : List BatE := (ns.filter fun n => decide (f ≤ n)).flatMap fun n => batL (s.read (nameW n)).1
theorem haveL_snoc (s : Dsk) (f : Nat) (ns : List Nat) (n : Nat) : haveL s f (ns ++ [n]) = haveL s f ns ++ (if f ≤ n then batL (s.read (nameW n)).1 else []) := by
  unfold haveL
  rw [List.filter_append, List.flatMap_append]
  by_cases h : f ≤ n
  · simp [h]
  · simp [h]
theorem batL_count (data : List UInt8) : (batL data).length * 32 ≤ data.length := by
  have h1 := readF_size data
  have h2 : ∀ rs : List (List UInt8), (batsL rs).length ≤ rs.length := by
    intro rs
    induction rs with
    | nil => simp [batsL]
    | cons r rs ih =>
      unfold batsL
      split
      · simp
      · simp; omega
  have := h2 (readF data).1
  unfold batL
  omega
set_option maxRecDepth 100000 in
set_option maxHeartbeats 4000000 in
theorem each_rep {X : Nat → Prop} {wb w : World} {d : Nat} {s : Dsk} {m : Nat} (h : Dx X wb d s) (hG : Glo wb) (hb : Below wb.heap.size wb w) (g : s.Good m) (hm : m < 1000000000) (hN : s.names.length ≤ 20000) (hne : ∀ p ∈ s.names, p.1 ≠ []) (hs : s.rawW.Pairwise (· ≤ ·)) (hoff : s.off = false)
    {gd gf ob f : Nat} (hgd : Blk w gd 25 #[.pointer (some ⟨d, 0, none⟩)]) (hgf : Blk w gf 42 #[.int .u64 (f : Nat)]) (hob : Blk w ob 27 #[.slice none 0 0]) (hobB : wb.heap.size ≤ ob) :
    Calls Tryz.prog 43 #[.pointer (some ⟨d, 0, none⟩), .func (.func 44) #[] #[.pointer (some ⟨gf, 0, none⟩)], .func (.func 45) #[] #[.pointer (some ⟨gd, 0, none⟩), .pointer (some ⟨ob, 0, none⟩)]] w fun e w' =>
      e = .returned (.int .i64 0) ∧ ∃ v l, Blk w' ob 27 #[v] ∧ OwnM w' wb.heap.size v l ∧ l.map (·.b) = haveL s f s.logsW ∧ Below wb.heap.size wb w' := by
  have hzb := hb.size
  have hDw : Dx X w d s := h.grow hb (fun k => .inl)
  have hread := Lib.hid (by
    have := Read_dx hDw g (by omega) ⟨#[]⟩ (by decide)
    rw [show (⟨#[]⟩ : ByteArray).data.toList = [] from rfl, Dsk.read_none hne hoff] at this
    exact this)
  have hlogs := Lib.hid (Logs_any hDw (hG.below hb hG.size) g hm hs)
  have hnl : s.logsW.length ≤ 20000 := by
    rw [rawW_sorted hs]
    have := rawW_len s
    omega
  have hlog := fun n (hn : n ∈ s.logsW) => g.read_log hoff hn
  replace hlog := Lib.hid hlog
  replace hs := Lib.hid hs
  replace h := Lib.hid h
  replace hG := Lib.hid hG
  obtain ⟨ns, hns⟩ : ∃ ns, s.logsW = ns := ⟨_, rfl⟩
  rw [hns] at hlogs hnl hlog ⊢
  replace hns := Lib.hid hns
  replace hN := Lib.hid hN
  go_enter Tryz.func43, Tryz.ntmps43
  go_wp2_with fail
  refine hread.out.mono ?_
  rintro e w' ⟨rfl, rfl⟩
  go_wp2_with fail
  refine hlogs.out.mono ?_
  rintro e w1 ⟨lv, rfl, hrow, hb1⟩
  obtain ⟨LA, Lc, hform⟩ : ∃ A c, lv = .slice A ns.length c := by
    rcases hrow.2 with ⟨rfl, e⟩ | ⟨gg, cap, cur, rfl, _⟩
    · exact ⟨none, 0, by rw [e]⟩
    · exact ⟨_, cap, rfl⟩
  subst hform
  have hz1' := hb1.size
  have hgd1 := hgd.below hb1 hgd.lt
  have hgf1 := hgf.below hb1 hgf.lt
  have hob1 := hob.below hb1 hob.lt
  have hbb1 := hb.trans (hb1.mono hzb)
  obtain ⟨N, hNN⟩ : ∃ N, ns.length = N := ⟨_, rfl⟩
  rw [hNN] at hnl ⊢
  replace hrow := Lib.hid hrow
  clear hb1
  replace hbb1 := Lib.hid hbb1
  go_wp2_with fail
  go_loopw [23] (fun iv wr => ∃ (k : Nat) (v : Value) (l : List MB), k ≤ N ∧ iv = .int .i64 k ∧ Blk wr ob 27 #[v] ∧ OwnM wr wb.heap.size v l ∧ l.map (·.b) = haveL s f (ns.take k) ∧ l.length ≤ k * 32768 ∧
    OwnU wr w.heap.size (.slice LA ns.length Lc) ns ∧ Blk wr gd 25 #[.pointer (some ⟨d, 0, none⟩)] ∧ Blk wr gf 42 #[.int .u64 (f : Nat)] ∧ Below wb.heap.size wb wr) (fun iv _ => N - (intOf iv).toNat)
  case atStart => exact ⟨0, _, [], Nat.zero_le _, rfl, hob1, OwnM.nil _ _, rfl, by simp, hrow.out, hgd1, hgf1, hbb1.out⟩
  case round =>
    obtain ⟨k, v, l, hk, rfl, hobr, hmr, hlm, hll, hur, hgdr, hgfr, hbr⟩ := hrel
    by_cases hlt : k < N
    · have hlt' : (k : Int) < N := by omega
      have hkn : k < ns.length := by omega
      have hmem := List.getElem_mem hkn
      have hts : haveL s f (ns.take (k + 1)) = haveL s f (ns.take k) ++ (if f ≤ ns[k] then batL (s.read (nameW ns[k])).1 else []) := by
        rw [List.take_succ_eq_append_getElem hkn, haveL_snoc]
      obtain ⟨data, hrdn, hdl, hn64⟩ := hlog.out _ hmem
      obtain ⟨gg, cc, eform, hggl, hnat⟩ : ∃ gg cc, Value.slice LA ns.length Lc = .slice (some ⟨gg, 0, none⟩) ns.length cc ∧ gg < wr.heap.size ∧ NumsAt wr gg ns := by
        rcases hur.form with ⟨e, _⟩ | ⟨gg, cc, e1, e2, e3⟩
        · rw [e] at hkn; simp at hkn
        · exact ⟨gg, cc, e1, e2, e3⟩
      injection eform with eA _ eC
      subst eA eC
      have q0 := hnat k _ (List.getElem?_eq_getElem hkn)
      have hur0 := hur
      generalize ns[k] = n at *
      have hsuch := Lib.hid (rep1_any hgfr n)
      have hname := Lib.hid (log_name n hn64 wr (hG.out.below hbr hG.out.size))
      replace hlm := Lib.hid hlm
      replace hts := Lib.hid hts
      replace hnat := Lib.hid hnat
      clear hn64
      by_cases hf : f ≤ n
      · have hfb : decide (f ≤ n) = true := decide_eq_true hf
        rw [hfb] at hsuch
        go_wp2_with fail
        refine hsuch.out.mono ?_
        rintro e w2 ⟨rfl, rfl⟩
        go_wp2_with fail
        refine hname.out.mono ?_
        rintro e w3 ⟨rfl, hb3⟩
        have hb3' := hbr.trans (hb3.mono hbr.size)
        have hob3 := hobr.below hb3 hobr.lt
        have hm3 := hmr.below hb3
        have hu3 := hur0.below hb3
        have hgd3 := hgdr.below hb3 hgdr.lt
        have hgf3 := hgfr.below hb3 hgfr.lt
        clear hb3
        have hrep := rep2_any (h.out.grow hb3' (Y := X) (fun k => .inl)) (hG.out.below hb3' hG.out.size).tab g hm (bs (nameW n)) (by rw [bs_size]; have := nameW_len (hlog.out n hmem).choose_spec.2.2; omega) (by rw [bs_data]; exact hrdn) hdl hgd3 hob3 hm3 hb3'.size (by omega)
        replace hrep := Lib.hid hrep
        replace hb3' := Lib.hid hb3'
        replace hu3 := Lib.hid hu3
        replace hgd3 := Lib.hid hgd3
        replace hgf3 := Lib.hid hgf3
        replace hob3 := Lib.hid hob3
        replace hm3 := Lib.hid hm3
        replace hrdn := Lib.hid hrdn
        go_wp2_with fail
        refine hrep.out.mono ?_
        rintro e w4 ⟨rfl, v', l', hob4, hm4, hl4, hk4⟩
        have hb4 : Below wb.heap.size wb w4 := hb3'.out.trans (hk4.below (B := wb.heap.size) (fun j hj => by
          rcases hj with rfl | hj
          · exact hobB
          · exact (own_lt hm3.out.row j hj).1) hb3'.out.size)
        have hu4 : OwnU w4 w.heap.size (.slice (some ⟨gg, 0, none⟩) ns.length Lc) ns := own_kept hu3.out hk4 (fun j hj e => by
          rcases e with rfl | e
          · exact own_blk_ne hu3.out hob3.out (by decide) hj
          · exact own_ne_own hu3.out hm3.out.row (by decide) j hj e)
        have hgd4 := hgd3.out.keptB hk4 (by
          rintro (e | e)
          · exact Blk.ne_ hgd3.out hob3.out (by decide) e
          · exact own_blk_ne hm3.out.row hgd3.out (by decide) e)
        have hgf4 := hgf3.out.keptB hk4 (by
          rintro (e | e)
          · exact Blk.ne_ hgf3.out hob3.out (by decide) e
          · exact own_blk_ne hm3.out.row hgf3.out (by decide) e)
        have hcnt := batL_count data
        have hll4 : (l ++ l').length ≤ (k + 1) * 32768 := by
          have : l'.length = (batL data).length := by rw [← hl4, List.length_map]
          rw [List.length_append]
          omega
        have hl5 : (l ++ l').map (·.b) = haveL s f (ns.take (k + 1)) := by
          rw [List.map_append, hl4, hlm.out, hts.out, if_pos hf, hrdn.out]
        replace hb4 := Lib.hid hb4
        replace hu4 := Lib.hid hu4
        replace hl5 := Lib.hid hl5
        clear hk4 hl4
        go_wp2_with fail
        exact ⟨⟨k + 1, v', l ++ l', by omega, by go_num, hob4, hm4, hl5.out, hll4, hu4.out, hgd4, hgf4, hb4.out⟩, by simp [intOf]; omega⟩
      · have hfb : decide (f ≤ n) = false := decide_eq_false hf
        rw [hfb] at hsuch
        go_wp2_with fail
        refine hsuch.out.mono ?_
        rintro e w2 ⟨rfl, rfl⟩
        go_wp2_with fail
        exact ⟨⟨k + 1, v, l, by omega, by go_num, hobr, hmr, by rw [hts.out, if_neg hf, List.append_nil]; exact hlm.out, by omega, hur0, hgdr, hgfr, hbr⟩, by simp [intOf]; omega⟩
    · obtain rfl : k = N := by omega
      rw [List.take_of_length_le (by omega)] at hlm
      replace hlm := Lib.hid hlm
      replace hbr := Lib.hid hbr
      go_wp2_with fail
      go_ret
      exact ⟨rfl, v, l, hobr, hmr, hlm.out, hbr.out⟩
theorem replayW_on {s : Dsk} (hoff : s.off = false) (f : Nat) : s.replayW f = (haveL s f s.logsW, 0) := by
  unfold Dsk.replayW
  rw [if_neg (by rw [hoff]; decide)]
  rfl
set_option maxRecDepth 100000 in
set_option maxHeartbeats 2000000 in
theorem Replay_any {X : Nat → Prop} {w : World} {d : Nat} {s : Dsk} {m : Nat} (h : Dx X w d s) (hG : Glo w) (g : s.Good m) (hm : m < 1000000000) (hN : s.names.length ≤ 20000) (hne : ∀ p ∈ s.names, p.1 ≠ []) (hs : s.rawW.Pairwise (· ≤ ·)) (hoff : s.off = false) (f : Nat) :
    Calls Tryz.prog 15 #[.pointer (some ⟨d, 0, none⟩), .int .u64 (f : Nat)] w fun e w' => ∃ v l, e = .returned (.tuple #[v, .int .i64 0]) ∧ OwnM w' w.heap.size v l ∧ l.map (·.b) = (s.replayW f).1 ∧ Below w.heap.size w w' := by
  have hb0 : Below w.heap.size w (((w.alloc (.cells #[.pointer (some ⟨d, 0, none⟩)] 25)).alloc (.cells #[.int .u64 (f : Nat)] 42)).alloc (.cells #[.slice none 0 0] 27)) := (((Below.refl _ _).alloc (Nat.le_refl _) _).alloc (by simp) _).alloc (by simp; omega) _
  have hgd : Blk (((w.alloc (.cells #[.pointer (some ⟨d, 0, none⟩)] 25)).alloc (.cells #[.int .u64 (f : Nat)] 42)).alloc (.cells #[.slice none 0 0] 27)) w.heap.size 25 #[.pointer (some ⟨d, 0, none⟩)] := ((Blk.new w _ _).alloc _).alloc _
  have hgf : Blk (((w.alloc (.cells #[.pointer (some ⟨d, 0, none⟩)] 25)).alloc (.cells #[.int .u64 (f : Nat)] 42)).alloc (.cells #[.slice none 0 0] 27)) (w.heap.size + 1) 42 #[.int .u64 (f : Nat)] := by
    have := (Blk.new (w.alloc (.cells #[.pointer (some ⟨d, 0, none⟩)] 25)) 42 #[.int .u64 (f : Nat)]).alloc (.cells #[.slice none 0 0] 27)
    simpa using this
  have hob : Blk (((w.alloc (.cells #[.pointer (some ⟨d, 0, none⟩)] 25)).alloc (.cells #[.int .u64 (f : Nat)] 42)).alloc (.cells #[.slice none 0 0] 27)) (w.heap.size + 1 + 1) 27 #[.slice none 0 0] := by
    have := Blk.new ((w.alloc (.cells #[.pointer (some ⟨d, 0, none⟩)] 25)).alloc (.cells #[.int .u64 (f : Nat)] 42)) 27 #[.slice none 0 0]
    simpa using this
  have heach := Lib.hid (each_rep h hG hb0 g hm hN hne hs hoff hgd hgf hob (by omega))
  rw [replayW_on hoff f]
  clear hb0 hgd hgf hob
  go_enter Tryz.func15, Tryz.ntmps15
  go_wp2_with fail
  refine heach.out.mono ?_
  rintro e w1 ⟨rfl, v, l, hob1, hm1, hl1, hb1⟩
  have c0 : w1.cell? ⟨w.heap.size + 1 + 1, 0, none⟩ = some v := hob1.cell 0
  have cl := hob1.lt
  obtain ⟨A, c, rfl⟩ := hm1.form
  replace hl1 := Lib.hid hl1
  go_wp2_with fail
  go_ret2
  exact ⟨_, l, rfl, hm1, hl1.out, hb1⟩
end Go.Proofs.YtdbpfemkjfogoaaGreatDoor
namespace Go.Proofs.YtdbpfemkjfogoaaGreatDoor
set_option linter.unusedVariables false
set_option linter.unusedSimpArgs false
/-- A round up to its crash. -/
def goesW (s : Dsk) (fuse : Int) (r : List (BatE × Bool)) : Dsk × List BatE × List BatE := if (s.setFuse fuse).nextW.2 = 7 then ((s.setFuse fuse).nextW.1, [], []) else goW r (s.setFuse fuse).nextW.1 (nextN (s.setFuse fuse).logsW)
theorem goesW_leaves {s : Dsk} {l : List LogE} {M : Nat} (h : Cl s l) (ok : s.Ok) (hd : s.Dir) (hoff : s.off = false) (hM : ∀ q ∈ l, q.1 ≤ M) {fuse : Int} (hf : fuse ≤ 9223372036854775807) (r : List (BatE × Bool)) (hb : M + 1 + r.length < 18446744073709551615) :
    Leaves (goesW s fuse r).1 (contW l ++ (goesW s fuse r).2.1) (goesW s fuse r).2.2 (M + 1 + r.length) ∧ (goesW s fuse r).2.2.length ≤ 1 ∧ (goesW s fuse r).1.Ok ∧ (goesW s fuse r).1.Dir := by
  unfold goesW
  have h0 := h.setFuse fuse
  have ok0 := ok.setFuse fuse hf
  have hd0 := hd.setFuse fuse
  have hoff0 : (s.setFuse fuse).off = false := hoff
  generalize s.setFuse fuse = t at *
  obtain ⟨a1, a2⟩ := next_above h0 M hM
  unfold Dsk.nextW
  rw [h0.logs hd0]
  generalize nextN (l.map (·.1)) = n2 at *
  have okb := ok0.beginW n2
  have hdb := hd0.beginW ok0 n2
  rcases h0.begin ok0 hoff0 a1 (by omega) with ⟨e, hof, hC⟩ | ⟨e, hL⟩
  · rw [e, if_neg (by decide)]
    have hM2 : ∀ q ∈ l ++ [((n2, t.files.length, logL []) : LogE)], q.1 ≤ M + 1 := fun q hq => by
      rcases List.mem_append.1 hq with hq | hq
      · have := hM q hq; omega
      · rw [List.mem_singleton.1 hq]; exact a2
    obtain ⟨q1, q2, q3, q4⟩ := goW_leaves r (t.beginW n2).1 l n2 t.files.length [] (M + 1) hC okb hdb hof (fun b hb => by cases hb) hM2 (by omega)
    rw [List.append_nil] at q1
    exact ⟨q1, q2, q3, q4⟩
  · rw [e, if_pos rfl]
    refine ⟨fun c => ?_, Nat.zero_le _, okb, hdb⟩
    rcases hL c with hC | hC
    · exact ⟨_, hC, fun q hq => by have := hM q hq; omega, .inl (by simp)⟩
    · refine ⟨_, hC, fun q hq => ?_, .inl ?_⟩
      · rcases List.mem_append.1 hq with hq | hq
        · have := hM q hq; omega
        · rw [List.mem_singleton.1 hq]; omega
      · rw [contW_snoc]
        simp only
        rw [batL_nil]
structure RoundE where
  bats : List BatE
  nw : List Bool
  fuse : Int
  crash : Cra
/-- Which batches another log is begun ahead of. -/
def RoundE.rows (r : RoundE) : List (BatE × Bool) := (List.range r.bats.length).zipWith (fun i b => (b, r.nw.getD i false)) r.bats
/-- The disk behind a round's crash. -/
def afterW (s : Dsk) (r : RoundE) : Dsk := (((goesW s r.fuse r.rows).1.crash r.crash).start).setFuse 0
/-- What is held to be there behind a round. -/
def haveW (have_ : List BatE) (s : Dsk) (r : RoundE) : List BatE :=
  let g := goesW s r.fuse r.rows
  if ((afterW s r).replayW 0).1.length = (have_ ++ g.2.1).length + g.2.2.length then have_ ++ g.2.1 ++ g.2.2 else have_ ++ g.2.1
/-- A disk behind some rounds. -/
structure BetW (s : Dsk) (l : List LogE) (M : Nat) : Prop where
  cl : Cl s l
  ok : s.Ok
  dir : s.Dir
  off : s.off = false
  num : ∀ q ∈ l, q.1 ≤ M
theorem BetW.new (room : Int) : BetW (Dsk.new room) [] 0 := ⟨Cl.new room, Dsk.Ok.new room, Dsk.Dir.new room, rfl, fun q h => (nomatch h)⟩
theorem BetW.replay {s : Dsk} {l : List LogE} {M : Nat} (h : BetW s l M) : s.replayW 0 = (contW l, 0) := h.cl.replay0 h.dir h.off
theorem rows_len (r : RoundE) : r.rows.length = r.bats.length := by unfold RoundE.rows; simp
/-- WalLasts, a round: what is replayed is what is held to be there. -/
theorem BetW.round {s : Dsk} {l : List LogE} {M : Nat} (h : BetW s l M) (r : RoundE) (hf : r.fuse ≤ 9223372036854775807) (hb : M + 1 + r.bats.length < 18446744073709551615) :
    ∃ l', BetW (afterW s r) l' (M + 1 + r.bats.length) ∧ contW l' = haveW (contW l) s r ∧ (afterW s r).replayW 0 = (contW l', 0) ∧ (goesW s r.fuse r.rows).2.2.length ≤ 1 := by
  obtain ⟨q1, q2, q3, q4⟩ := goesW_leaves h.cl h.ok h.dir h.off h.num hf r.rows (by rw [rows_len]; exact hb)
  rw [rows_len] at q1
  obtain ⟨l', c1, c2, c3⟩ := q1 r.crash
  have hB : BetW (afterW s r) l' (M + 1 + r.bats.length) := ⟨(c1.start).setFuse 0, ((q3.crash r.crash).start).setFuse 0 (by decide), ((q4.crash r.crash).start).setFuse 0, rfl, c2⟩
  have hrp := hB.replay
  refine ⟨l', hB, ?_, hrp, q2⟩
  unfold haveW
  simp only
  rw [hrp]
  simp only
  rcases c3 with e | e
  · rw [e]
    split
    · rename_i hl
      have h0 : (goesW s r.fuse r.rows).2.2 = [] := List.eq_nil_of_length_eq_zero (by omega)
      rw [h0, List.append_nil]
    · rfl
  · rw [e, if_pos List.length_append]
end Go.Proofs.YtdbpfemkjfogoaaGreatDoor
namespace Go.Proofs.YtdbpfemkjfogoaaGreatDoor
open Go.Lib
set_option linter.unusedVariables false
set_option linter.unusedSimpArgs false
theorem before_app (p : List UInt8) : ∀ a b : List UInt8, bytesBefore (p ++ a) (p ++ b) = bytesBefore a b := by
  induction p with
  | nil => intro a b; rfl
  | cons c p ih =>
    intro a b
    rw [List.cons_append, List.cons_append, bytesBefore, ih]
    simp
theorem low_before (a b : Nat) : ∀ j, bytesBefore (lowL a j) (lowL b j) = true → a % 10 ^ j < b % 10 ^ j := by
  intro j
  induction j with
  | zero => intro h; simp [lowL, bytesBefore] at h
  | succ j ih =>
    intro h
    have hx : ∀ u : Nat, u % 10 ^ (j + 1) = (u / 10 ^ j % 10) * 10 ^ j + u % 10 ^ j := fun u => by
      rw [Nat.pow_succ, Nat.mod_mul, Nat.add_comm, Nat.mul_comm]
    have hp : 0 < 10 ^ j := Nat.pow_pos (by decide)
    have ha := Nat.mod_lt a hp
    have hb := Nat.mod_lt b hp
    have hd : ∀ u : Nat, (UInt8.ofNat (48 + u / 10 ^ j % 10)).toNat = 48 + u / 10 ^ j % 10 := fun u => c48 _ (Nat.mod_lt _ (by decide))
    unfold lowL at h
    rw [bytesBefore] at h
    simp only [Bool.or_eq_true, Bool.and_eq_true, beq_iff_eq, decide_eq_true_eq] at h
    rw [hx a, hx b]
    rcases h with h | ⟨h1, h2⟩
    · have h3 : a / 10 ^ j % 10 < b / 10 ^ j % 10 := by
        rw [UInt8.lt_iff_toNat_lt, hd, hd] at h
        omega
      have h4 : (a / 10 ^ j % 10 + 1) * 10 ^ j ≤ (b / 10 ^ j % 10) * 10 ^ j := Nat.mul_le_mul_right _ h3
      rw [Nat.add_mul, Nat.one_mul] at h4
      omega
    · have h3 : a / 10 ^ j % 10 = b / 10 ^ j % 10 := by
        have := congrArg UInt8.toNat h1
        rw [hd, hd] at this
        omega
      have := ih h2
      rw [h3]
      omega
theorem name_before {a b : Nat} (ha : a < 100000000) (hb : b < 100000000) (h : bytesBefore (nameW a) (nameW b) = true) : a < b := by
  have h8 : ∀ u : Nat, u < 100000000 → nDigits u ≤ 8 := fun u hu => by
    have : ∀ (k : Nat) (u : Nat), u < 10 ^ (k + 1) → nDigits u ≤ k + 1 := by
      intro k
      induction k with
      | zero =>
        intro u hu
        rw [nDigits_small (by simpa using hu)]
        exact Nat.le_refl _
      | succ k ih =>
        intro u hu
        by_cases h : u < 10
        · rw [nDigits_small h]
          omega
        · have := ih (u / 10) (by rw [Nat.pow_succ] at hu; omega)
          rw [nDigits_big h]
          omega
    exact this 7 u (by simpa using hu)
  have e : ∀ u : Nat, u < 100000000 → pad8 u = lowL u 8 := fun u hu => (lowL_pad8 u 8 (by have := h8 u hu; omega)).symm
  unfold nameW nameL at h
  rw [before_app, e a ha, e b hb] at h
  have := low_before a b 8 h
  rw [Nat.mod_eq_of_lt (by simpa using ha), Nat.mod_eq_of_lt (by simpa using hb)] at this
  exact this
section
variable {s : Dsk} {l : List LogE}
theorem Cl.raw (h : Cl s l) (hr : s.names.Pairwise fun p q => bytesBefore p.1 q.1 = true) (hM : ∀ q ∈ l, q.1 < 100000000) : s.rawW.Pairwise (· ≤ ·) := by
  unfold Dsk.rawW
  rw [List.pairwise_filterMap]
  refine hr.imp_of_mem ?_
  intro p q hp hq hpq a ha b hb
  obtain ⟨x, hx, rfl⟩ := h.all p hp
  obtain ⟨y, hy, rfl⟩ := h.all q hq
  have e1 := numP_name logW x.1 (h.num x hx)
  have e2 := numP_name logW y.1 (h.num y hy)
  simp only at ha hb hpq
  rw [show nameW x.1 = nameL logW x.1 from rfl, e1] at ha
  rw [show nameW y.1 = nameL logW y.1 from rfl, e2] at hb
  injection ha with ha
  injection hb with hb
  subst ha hb
  exact Nat.le_of_lt (name_before (hM x hx) (hM y hy) hpq)
theorem Cl.ne (h : Cl s l) : ∀ p ∈ s.names, p.1 ≠ [] := fun p hp => by
  obtain ⟨x, _, rfl⟩ := h.all p hp
  exact nameW_ne _
end
end Go.Proofs.YtdbpfemkjfogoaaGreatDoor
namespace Go.Proofs.YtdbpfemkjfogoaaGreatDoor
open Go.RowKit
set_option linter.unusedVariables false
set_option linter.unusedSimpArgs false
theorem Dx.rising {X : Nat → Prop} {w : World} {d : Nat} {s : Dsk} (h : Dx X w d s) : s.names.Pairwise fun p q => bytesBefore p.1 q.1 = true := by
  obtain ⟨F, L, hL, _⟩ := h
  have hr := hL.names.rising Tryz.underlying9
  unfold mvM at hr
  rw [List.pairwise_map] at hr
  exact hr
theorem BegV.widen {o : Dsk × Nat} {X : Nat → Prop} {d n : Nat} {w w0 : World} {e : Ending} {w' : World} (h : BegV o X d n w e w') (hs : w0.heap.size ≤ w.heap.size) : BegV o X d n w0 e w' := by
  rcases h with ⟨h0, lg, h1, h2, h3, h4⟩ | h
  · exact .inl ⟨h0, lg, h1, h2, by omega, h4⟩
  · exact .inr h
set_option maxRecDepth 100000 in
set_option maxHeartbeats 2000000 in
theorem next_any {X : Nat → Prop} {w : World} {d : Nat} {s : Dsk} {m : Nat} (h : Dx X w d s) (hX : ∀ k, X k → k < w.heap.size) (hX7 : ∀ k, k < 7 → X k) (hG : Glo w) (g : s.Good m) (hm : m < 100000000) (hs : s.rawW.Pairwise (· ≤ ·)) (hM : ∀ n ∈ s.logsW, n < 1000000000) :
    Calls Tryz.prog 32 #[.pointer (some ⟨d, 0, none⟩)] w fun e w' => BegV s.nextW X d (nextN s.logsW) w e w' ∧ Keeps X w w' := by
  have hlogs := Lib.hid (Logs_any h hG g (by omega) hs)
  have hnl : s.logsW.length < 100000000 := by
    rw [rawW_sorted hs]
    have := rawW_len s
    have := g.names
    omega
  unfold Dsk.nextW
  obtain ⟨ns, hns⟩ : ∃ ns, s.logsW = ns := ⟨_, rfl⟩
  rw [hns] at hlogs hM hnl ⊢
  replace hns := Lib.hid hns
  replace hs := Lib.hid hs
  rcases List.eq_nil_or_concat ns with rfl | ⟨ys, y, rfl⟩
  · have hbeg := Lib.hid (fun (W : World) (hD : Dx X W d s) hXW (hW : Glo W) => Begin_any hD hXW hX7 hW g (by omega) 1 (by decide))
    rw [show nextN [] = 1 from rfl]
    generalize s.beginW 1 = o at *
    replace hG := Lib.hid hG
    clear hM
    go_enter Tryz.func32, Tryz.ntmps32
    go_wp2_with fail
    refine hlogs.out.mono ?_
    rintro e w1 ⟨v, rfl, hrow, hb1⟩
    rcases hrow.form with ⟨_, rfl⟩ | ⟨g1, c1, rfl, _, _⟩
    · have hk1 : Keeps X w w1 := Keeps.of_below hb1 hX
      have hz := hb1.size
      have hcall := Lib.hid (hbeg.out w1 (h.grow hb1 (fun k => .inl)) (fun k hk => by have := hX k hk; omega) (hG.out.below hb1 hG.out.size))
      replace hk1 := Lib.hid hk1
      go_wp2_with fail
      refine hcall.out.mono ?_
      rintro e w2 ⟨hB, hk2⟩
      have hk3 := hk1.out.trans hk2 (fun _ => id)
      replace hk3 := Lib.hid hk3
      rcases hB with ⟨h0, lg, rfl, h2, h3, h4⟩ | ⟨h0, rfl, h4⟩
      · go_wp2_with fail
        go_ret2
        exact ⟨.inl ⟨h0, lg, rfl, h2, by omega, h4⟩, hk3.out⟩
      · go_wp2_with fail
        go_ret2
        exact ⟨.inr ⟨h0, rfl, h4⟩, hk3.out⟩
    · have hk1 : Keeps X w w1 := Keeps.of_below hb1 hX
      have hz := hb1.size
      have hcall := Lib.hid (hbeg.out w1 (h.grow hb1 (fun k => .inl)) (fun k hk => by have := hX k hk; omega) (hG.out.below hb1 hG.out.size))
      replace hk1 := Lib.hid hk1
      go_wp2_with fail
      refine hcall.out.mono ?_
      rintro e w2 ⟨hB, hk2⟩
      have hk3 := hk1.out.trans hk2 (fun _ => id)
      replace hk3 := Lib.hid hk3
      rcases hB with ⟨h0, lg, rfl, h2, h3, h4⟩ | ⟨h0, rfl, h4⟩
      · go_wp2_with fail
        go_ret2
        exact ⟨.inl ⟨h0, lg, rfl, h2, by omega, h4⟩, hk3.out⟩
      · go_wp2_with fail
        go_ret2
        exact ⟨.inr ⟨h0, rfl, h4⟩, hk3.out⟩
  · have hy := hM y (by simp)
    rw [List.concat_eq_append] at *
    have hnx : nextN (ys ++ [y]) = y + 1 := by unfold nextN; rw [List.getLast?_append]; rfl
    rw [hnx]
    have hbeg := Lib.hid (fun (W : World) (hD : Dx X W d s) hXW (hW : Glo W) => Begin_any hD hXW hX7 hW g (by omega) (y + 1) (by omega))
    generalize s.beginW (y + 1) = o at *
    have hlen : (ys ++ [y]).length = ys.length + 1 := by simp
    have hyy : (ys ++ [y])[ys.length]? = some y := by simp
    replace hG := Lib.hid hG
    clear hM hnx
    go_enter Tryz.func32, Tryz.ntmps32
    go_wp2_with fail
    refine hlogs.out.mono ?_
    rintro e w1 ⟨v, rfl, hrow, hb1⟩
    rcases hrow.form with ⟨e, rfl⟩ | ⟨g1, c1, rfl, hgl, hnat⟩
    · simp at e
    · have q0 := hnat _ _ hyy
      rw [hlen]
      have hk1 : Keeps X w w1 := Keeps.of_below hb1 hX
      have hz := hb1.size
      have hcall := Lib.hid (hbeg.out w1 (h.grow hb1 (fun k => .inl)) (fun k hk => by have := hX k hk; omega) (hG.out.below hb1 hG.out.size))
      replace hk1 := Lib.hid hk1
      have hnl2 : ys.length < 100000000 := by omega
      clear hnat hyy hrow
      go_wp2_with fail
      refine hcall.out.mono ?_
      rintro e w2 ⟨hB, hk2⟩
      have hk3 := hk1.out.trans hk2 (fun _ => id)
      replace hk3 := Lib.hid hk3
      rcases hB with ⟨h0, lg, rfl, h2, h3, h4⟩ | ⟨h0, rfl, h4⟩
      · go_wp2_with fail
        go_ret2
        exact ⟨.inl ⟨h0, lg, rfl, h2, by omega, h4⟩, hk3.out⟩
      · go_wp2_with fail
        go_ret2
        exact ⟨.inr ⟨h0, rfl, h4⟩, hk3.out⟩
set_option maxRecDepth 100000 in
set_option maxHeartbeats 4000000 in
theorem Add_any {X : Nat → Prop} {w : World} {d lg n : Nat} {s : Dsk} {m : Nat} (h : Dx X w d s) (hX : ∀ k, X k → k < w.heap.size) (hX7 : ∀ k, k < 7 → X k) (hG : Glo w) (g : s.Good m) (hm : m < 1000000000) (hn : n < 18446744073709551616) (hlog : LogAt w lg d n) (hXl : X lg)
    (seq : Nat) (A : Option Addr) (cap B : Nat) (b : List OpE) (hs : seq < 18446744073709551616) (hr : OpsR w B A b) (hB : B ≤ w.heap.size) (hl : b.length ≤ 1073741824) :
    Calls Tryz.prog 19 #[.pointer (some ⟨lg, 0, none⟩), .agg #[.int .u64 (seq : Nat), .slice A b.length cap]] w fun e w' => e = .returned (.int .i64 ((s.addW n ⟨seq, b⟩).2 : Nat)) ∧ Dx X w' d (s.addW n ⟨seq, b⟩).1 ∧ Keeps X w w' := by
  have hbx : Below w.heap.size w (w.alloc (.cells #[.int .u64 (seq : Nat), .slice A b.length cap] 53)) := (Below.refl _ _).alloc (Nat.le_refl _) _
  have hnone := Lib.hid (lnone_any (show LogAt (w.alloc (.cells #[.int .u64 (seq : Nat), .slice A b.length cap] 53)) lg d n from hlog.alloc _))
  have l0 : w.cell? ⟨lg, 0, none⟩ = some (.int .u64 (n : Nat)) := Blk.cell hlog 0
  have l1 : w.cell? ⟨lg, 1, none⟩ = some (.func (.func 53) #[.pointer (some ⟨d, 0, none⟩)] #[]) := Blk.cell hlog 1
  have l2 : w.cell? ⟨lg, 2, none⟩ = some (.func (.func 54) #[.pointer (some ⟨d, 0, none⟩)] #[]) := Blk.cell hlog 2
  have hlt := Blk.lt hlog
  have hrx : OpsR (w.alloc (.cells #[.int .u64 (seq : Nat), .slice A b.length cap] 53)) (w.alloc (.cells #[.int .u64 (seq : Nat), .slice A b.length cap] 53)).heap.size A b := Reads.more (hr.below hbx hB) (by simp; omega)
  have hadd : s.addW n ⟨seq, b⟩ = if chkB ⟨seq, b⟩ = 0 then (if (s.append (nameW n) (frameL (encB ⟨seq, b⟩))).2 = 0 then (s.append (nameW n) (frameL (encB ⟨seq, b⟩))).1.sync (nameW n) else s.append (nameW n) (frameL (encB ⟨seq, b⟩))) else (s, chkB ⟨seq, b⟩) := rfl
  by_cases hc : chkB ⟨seq, b⟩ = 0
  · have henc := Lib.hid (Enc_ok seq A cap b _ hrx hc)
    have hel := encB_len hc
    rw [if_pos hc] at hadd
    have hname := Lib.hid (fun W hW => log_name n hn W hW)
    have hnl := nameW_len hn
    generalize encB ⟨seq, b⟩ = rec at *
    have hfl := putF_len rec 0
    have hframe := Lib.hid (fun (W : World) (hW : TabAt W) => Write_one (w := W.alloc (.cells #[.string (bs rec)] 9)) (hW.below (B := W.heap.size) ((Below.refl _ _).alloc (Nat.le_refl _) _) hW.pos) W.heap.size (bs rec) (by simp) (by simp [go_sem]) (by rw [bs_size]; omega))
    simp only [bs_data] at hframe
    rw [show putF 0 rec = frameL rec from rfl] at hfl
    generalize frameL rec = data at *
    have happ := fun (W : World) (hD : Dx X W d s) hXW => Append_dx hD hXW g (by omega) (bs (nameW n)) (by rw [bs_size]; omega) (bs data) (by rw [bs_size]; omega)
    simp only [bs_data] at happ
    have g1 := g.append (nameW n) data
    generalize s.append (nameW n) data = c at *
    obtain ⟨s1, e1⟩ := c
    simp only at happ hadd g1
    have hsy := fun (W : World) (hD : Dx X W d s1) hXW => Sync_dx hD hXW g1 (by omega) (bs (nameW n)) (by rw [bs_size]; omega)
    simp only [bs_data] at hsy
    replace happ := Lib.hid happ
    replace hsy := Lib.hid hsy
    replace hG := Lib.hid hG
    replace h := Lib.hid h
    replace hc := Lib.hid hc
    clear hn hs
    by_cases h0 : e1 = 0
    · subst h0
      rw [if_pos rfl] at hadd
      rw [hadd]
      clear hadd
      go_enter Tryz.func19, Tryz.ntmps19
      go_wp2_with fail
      refine hnone.out.mono ?_
      rintro e w' ⟨rfl, rfl⟩
      go_wp2_with fail
      refine henc.out.mono ?_
      rintro e w1 ⟨rfl, hb1⟩
      have hbw1 : Below w.heap.size w w1 := hbx.trans (hb1.mono (by simp))
      clear hb1
      have hz1 := hbw1.size
      have hfr := Lib.hid (hframe.out w1 (hG.out.below hbw1 hG.out.size).tab)
      have hG1 := hG.out.below hbw1 hG.out.size
      replace hbw1 := Lib.hid hbw1
      replace hG1 := Lib.hid hG1
      go_wp2_with fail
      refine hfr.out.mono ?_
      rintro e w2 ⟨rfl, hb2⟩
      have hbw2 : Below w.heap.size w w2 := (hbw1.out.alloc hbw1.out.size _).trans (hb2.mono (by simp; omega))
      clear hb2
      have c0 := (hbw2.cell (p := ⟨lg, 0, none⟩) hlt).trans l0
      have hnm := Lib.hid (hname.out w2 (hG.out.below hbw2 hG.out.size))
      have hz2 := hbw2.size
      have hlt2 : lg < w2.heap.size := by omega
      replace hbw2 := Lib.hid hbw2
      go_wp2_with fail
      refine hnm.out.mono ?_
      rintro e w3 ⟨rfl, hb3⟩
      have hbw3 : Below w.heap.size w w3 := hbw2.out.trans (hb3.mono (by omega))
      clear hb3
      have c1 := (hbw3.cell (p := ⟨lg, 1, none⟩) hlt).trans l1
      have hz3 := hbw3.size
      have hlt3 : lg < w3.heap.size := by omega
      have hX3 : ∀ k, X k → k < w3.heap.size := fun k hk => by have := hX k hk; omega
      have hap := Lib.hid (happ.out w3 (h.out.grow hbw3 (Y := X) (fun k => .inl)) hX3)
      have hk3 : Keeps X w w3 := Keeps.of_below hbw3 hX
      replace hk3 := Lib.hid hk3
      replace hbw3 := Lib.hid hbw3
      replace hX3 := Lib.hid hX3
      clear c0
      go_wp2_with fail
      refine hap.out.mono ?_
      rintro e w4 ⟨rfl, hD4, hk4⟩
      have hk := hk3.out.trans hk4 (fun _ => id)
      have c2 := (hk.cell (o := 2) hXl).trans l2
      have hz4 := hk4.size
      have hlt4 : lg < w4.heap.size := by omega
      clear c1
      have hX4 : ∀ k, X k → k < w4.heap.size := fun k hk => by have := hX k hk; omega
      have hs4 := Lib.hid (hsy.out w4 hD4 hX4)
      replace hk := Lib.hid hk
      go_wp2_with fail
      refine hs4.out.mono ?_
      rintro e w5 ⟨rfl, hD5, hk5⟩
      have hkf := hk.out.trans hk5 (fun _ => id)
      replace hkf := Lib.hid hkf
      go_wp2_with fail
      go_ret
      exact ⟨rfl, hD5, hkf.out⟩
    · have h0' : ¬ ((e1 : Nat) : Int) = 0 := by omega
      rw [if_neg h0] at hadd
      rw [hadd]
      clear hadd
      go_enter Tryz.func19, Tryz.ntmps19
      go_wp2_with fail
      refine hnone.out.mono ?_
      rintro e w' ⟨rfl, rfl⟩
      go_wp2_with fail
      refine henc.out.mono ?_
      rintro e w1 ⟨rfl, hb1⟩
      have hbw1 : Below w.heap.size w w1 := hbx.trans (hb1.mono (by simp))
      clear hb1
      have hz1 := hbw1.size
      have hfr := Lib.hid (hframe.out w1 (hG.out.below hbw1 hG.out.size).tab)
      have hG1 := hG.out.below hbw1 hG.out.size
      replace hbw1 := Lib.hid hbw1
      replace hG1 := Lib.hid hG1
      go_wp2_with fail
      refine hfr.out.mono ?_
      rintro e w2 ⟨rfl, hb2⟩
      have hbw2 : Below w.heap.size w w2 := (hbw1.out.alloc hbw1.out.size _).trans (hb2.mono (by simp; omega))
      clear hb2
      have c0 := (hbw2.cell (p := ⟨lg, 0, none⟩) hlt).trans l0
      have hnm := Lib.hid (hname.out w2 (hG.out.below hbw2 hG.out.size))
      have hz2 := hbw2.size
      have hlt2 : lg < w2.heap.size := by omega
      replace hbw2 := Lib.hid hbw2
      go_wp2_with fail
      refine hnm.out.mono ?_
      rintro e w3 ⟨rfl, hb3⟩
      have hbw3 : Below w.heap.size w w3 := hbw2.out.trans (hb3.mono (by omega))
      clear hb3
      have c1 := (hbw3.cell (p := ⟨lg, 1, none⟩) hlt).trans l1
      have hz3 := hbw3.size
      have hlt3 : lg < w3.heap.size := by omega
      have hX3 : ∀ k, X k → k < w3.heap.size := fun k hk => by have := hX k hk; omega
      have hap := Lib.hid (happ.out w3 (h.out.grow hbw3 (Y := X) (fun k => .inl)) hX3)
      have hk3 : Keeps X w w3 := Keeps.of_below hbw3 hX
      replace hk3 := Lib.hid hk3
      replace hbw3 := Lib.hid hbw3
      replace hX3 := Lib.hid hX3
      clear c0
      go_wp2_with fail
      refine hap.out.mono ?_
      rintro e w4 ⟨rfl, hD4, hk4⟩
      have hk := hk3.out.trans hk4 (fun _ => id)
      have c2 := (hk.cell (o := 2) hXl).trans l2
      have hz4 := hk4.size
      have hlt4 : lg < w4.heap.size := by omega
      clear c1
      replace hk := Lib.hid hk
      go_wp2_with fail
      go_ret
      exact ⟨rfl, hD4, hk.out⟩
  · have henc := Lib.hid (Enc_bad seq A cap b _ hs hrx hl hc)
    rw [if_neg hc] at hadd
    rw [hadd]
    clear hadd
    generalize chkB ⟨seq, b⟩ = cc at *
    have hcI : ¬ ((cc : Nat) : Int) = 0 := by omega
    clear hn hs
    go_enter Tryz.func19, Tryz.ntmps19
    go_wp2_with fail
    refine hnone.out.mono ?_
    rintro e w' ⟨rfl, rfl⟩
    go_wp2_with fail
    refine henc.out.mono ?_
    rintro e w1 ⟨rfl, hb1⟩
    have hbw1 : Below w.heap.size w w1 := hbx.trans (hb1.mono (by simp))
    clear hb1
    go_wp2_with fail
    go_ret
    exact ⟨rfl, h.grow hbw1 (fun k => .inl), Keeps.of_below hbw1 hX⟩
/-- A crash's choices in memory below a mark. -/
structure CraR (B : Nat) (w : World) (c : Cra) (KA PA : Option Addr) : Prop where
  keep : Reads w B 1 KA c.keep.length (keepV c.keep)
  spoil : Reads w B 2 PA c.spoil.length (spoilV c.spoil)
  kb : ∀ x ∈ c.keep, -9223372036854775808 ≤ x ∧ x ≤ 9223372036854775807
  pb : ∀ p ∈ c.spoil, -9223372036854775808 ≤ p.1 ∧ p.1 ≤ 9223372036854775807 ∧ p.2 < 4294967296
theorem CraR.below {B C : Nat} {w w' : World} {c : Cra} {KA PA : Option Addr} (h : CraR B w c KA PA) (hb : Below C w w') (hC : B ≤ C) : CraR B w' c KA PA :=
  ⟨h.keep.below (hb.mono hC), h.spoil.below (hb.mono hC), h.kb, h.pb⟩
theorem CraR.at_ {B : Nat} {w : World} {c : Cra} {KA PA : Option Addr} (h : CraR B w c KA PA) (hB : B ≤ w.heap.size) (hk : c.keep.length ≤ 100) (hp : c.spoil.length ≤ 100) : CraAt w c KA PA := ⟨h.keep.more hB, h.spoil.more hB, hk, hp, h.kb, h.pb⟩
theorem CraR.under {B : Nat} {w : World} {c : Cra} {KA PA : Option Addr} (h : CraR B w c KA PA) {C : Nat} (hC : B ≤ C) : ∀ ad, (c.keep ≠ [] ∧ KA = some ad) ∨ (c.spoil ≠ [] ∧ PA = some ad) → ad.block < C := by
  intro ad e
  rcases e with ⟨hne, e⟩ | ⟨hne, e⟩
  · obtain ⟨ad', e', h', _⟩ := h.keep.2 (by cases hcs : c.keep with | nil => exact absurd hcs hne | cons _ _ => simp)
    rw [e] at e'
    injection e' with e'
    rw [e']
    omega
  · obtain ⟨ad', e', h', _⟩ := h.spoil.2 (by cases hcs : c.spoil with | nil => exact absurd hcs hne | cons _ _ => simp)
    rw [e] at e'
    injection e' with e'
    rw [e']
    omega
structure MAct where
  x : AAct
  KA : Option Addr
  kc : Nat
  PA : Option Addr
  pc : Nat
def mactC (m : MAct) : List Value := [.int .u8 (m.x.c : Nat), .string m.x.a, .string m.x.b, .int .i64 m.x.n, .int .i64 m.x.cr.names, .slice m.KA m.x.cr.keep.length m.kc, .slice m.PA m.x.cr.spoil.length m.pc]
def mactV (m : MAct) : Value := .agg #[.int .u8 (m.x.c : Nat), .string m.x.a, .string m.x.b, .int .i64 m.x.n, .int .i64 m.x.cr.names, .slice m.KA m.x.cr.keep.length m.kc, .slice m.PA m.x.cr.spoil.length m.pc]
def mactsV (l : List MAct) : List Value := l.flatMap mactC
/-- What holds of any act that came in. -/
structure MOk (B : Nat) (w : World) (m : MAct) : Prop where
  cr : CraR B w m.x.cr m.KA m.PA
  c : m.x.c < 256
  a : m.x.a.size ≤ maxLen
  b : m.x.b.size ≤ maxLen
  n : m.x.n ≤ 9223372036854775807
  kl : m.x.cr.keep.length ≤ maxLen
  pl : m.x.cr.spoil.length ≤ maxLen
/-- What Great leaves. -/
structure MSmall (m : MAct) : Prop where
  a : m.x.a.size ≤ 20000
  b : m.x.b.size ≤ 20000
  k : m.x.cr.keep.length ≤ 100
  p : m.x.cr.spoil.length ≤ 100
theorem MOk.below {B C : Nat} {w w' : World} {m : MAct} (h : MOk B w m) (hb : Below C w w') (hC : B ≤ C) : MOk B w' m := ⟨h.cr.below hb hC, h.c, h.a, h.b, h.n, h.kl, h.pl⟩
theorem Went.after {w W1 w' : World} {F : Nat → Prop} {d : Nat} {s : Dsk} (hal : Below w.heap.size w W1) (h : Went W1 w' F d s) : Went w w' F d s := by
  obtain ⟨L, hL⟩ := h.at_
  have hs := hal.size
  exact ⟨(KeptBut.of_below hal (S := F)).trans h.kept (fun _ _ e => e), L, hL.more fun k hk => hk.imp id fun e => ⟨by omega, e.2⟩⟩
set_option maxRecDepth 100000 in
set_option maxHeartbeats 4000000 in
theorem Does_went {w : World} {F : Nat → Prop} {d : Nat} {L : Lay} {s : Dsk} {m : Nat} (h : DskAt w F d L s) (g : s.Good m) (hm : m ≤ 536870912) (x : MAct) {C : Nat} (hx : MOk C w x) (hC : C ≤ w.heap.size) (hF : ∀ k, F k → C ≤ k) (hs : MSmall x) :
    Calls Tryz.prog 64 #[.pointer (some ⟨d, 0, none⟩), mactV x] w fun e w' => e = .returned (.tuple #[.string (bs (s.act x.x).2.1), .int .i64 ((s.act x.x).2.2 : Nat)]) ∧ Went w w' F d (s.act x.x).1 := by
  obtain ⟨⟨c, a, b, n, cr⟩, KA, kc, PA, pc⟩ := x
  obtain ⟨hr, hc, _, _, hn, _, _⟩ := hx
  obtain ⟨ha, hb, hk, hp⟩ := hs
  simp only [] at hr hc hn ha hb hk hp
  replace ha : a.size ≤ 1073741824 := by omega
  replace hb : b.size ≤ 1073741824 := by omega
  have hal : Below w.heap.size w (w.alloc (.cells #[.int .u8 (c : Nat), .string a, .string b, .int .i64 n, .int .i64 cr.names, .slice KA cr.keep.length kc, .slice PA cr.spoil.length pc] 69)) := (Below.refl _ _).alloc (Nat.le_refl _) _
  have hD := h.below hal
  have hdF := h.inF.1
  have g1 := g.names
  have g2 := g.chg
  have g3 := g.load
  unfold mactV
  simp only []
  replace hal := Lib.hid hal
  have hcs : c = 0 ∨ c = 1 ∨ c = 2 ∨ c = 3 ∨ c = 4 ∨ c = 5 ∨ c = 6 ∨ c = 7 ∨ c = 8 ∨ c = 9 ∨ 10 ≤ c := by omega
  clear hc
  rcases hcs with rfl | rfl | rfl | rfl | rfl | rfl | rfl | rfl | rfl | rfl | hcs
  · have hR : s.act ⟨0, a, b, n, cr⟩ = ((s.create a.data.toList).1, [], (s.create a.data.toList).2) := rfl
    rw [hR]
    have hcall := Create_any hD g.ok a (by unfold maxLen; omega) (by omega) (by omega)
    replace hcall := Lib.hid hcall
    clear hR
    go_enter Tryz.func64, Tryz.ntmps64
    go_wp2_with fail
    refine hcall.out.mono ?_
    rintro e w2 ⟨rfl, hw2⟩
    have hfin := Went.after hal.out hw2
    replace hfin := Lib.hid hfin
    go_wp2_with fail
    go_ret2
    exact ⟨rfl, hfin.out⟩
  · have hR : s.act ⟨1, a, b, n, cr⟩ = ((s.append a.data.toList b.data.toList).1, [], (s.append a.data.toList b.data.toList).2) := rfl
    rw [hR]
    have hcall := Append_any hD g.ok a b (by unfold maxLen; omega) hb (by omega)
    replace hcall := Lib.hid hcall
    clear hR
    go_enter Tryz.func64, Tryz.ntmps64
    go_wp2_with fail
    refine hcall.out.mono ?_
    rintro e w2 ⟨rfl, hw2⟩
    have hfin := Went.after hal.out hw2
    replace hfin := Lib.hid hfin
    go_wp2_with fail
    go_ret2
    exact ⟨rfl, hfin.out⟩
  · have hR : s.act ⟨2, a, b, n, cr⟩ = ((s.sync a.data.toList).1, [], (s.sync a.data.toList).2) := rfl
    rw [hR]
    have hcall := Sync_any hD g.ok a (by unfold maxLen; omega)
    replace hcall := Lib.hid hcall
    clear hR
    go_enter Tryz.func64, Tryz.ntmps64
    go_wp2_with fail
    refine hcall.out.mono ?_
    rintro e w2 ⟨rfl, hw2⟩
    have hfin := Went.after hal.out hw2
    replace hfin := Lib.hid hfin
    go_wp2_with fail
    go_ret2
    exact ⟨rfl, hfin.out⟩
  · have hR : s.act ⟨3, a, b, n, cr⟩ = ((s.rename a.data.toList b.data.toList).1, [], (s.rename a.data.toList b.data.toList).2) := rfl
    rw [hR]
    have hcall := Rename_any hD g.ok a b (by unfold maxLen; omega) (by omega) (by omega)
    replace hcall := Lib.hid hcall
    clear hR
    go_enter Tryz.func64, Tryz.ntmps64
    go_wp2_with fail
    refine hcall.out.mono ?_
    rintro e w2 ⟨rfl, hw2⟩
    have hfin := Went.after hal.out hw2
    replace hfin := Lib.hid hfin
    go_wp2_with fail
    go_ret2
    exact ⟨rfl, hfin.out⟩
  · have hR : s.act ⟨4, a, b, n, cr⟩ = ((s.delete a.data.toList).1, [], (s.delete a.data.toList).2) := rfl
    rw [hR]
    have hcall := Delete_any hD g.ok a (by unfold maxLen; omega) (by omega) (by omega)
    replace hcall := Lib.hid hcall
    clear hR
    go_enter Tryz.func64, Tryz.ntmps64
    go_wp2_with fail
    refine hcall.out.mono ?_
    rintro e w2 ⟨rfl, hw2⟩
    have hfin := Went.after hal.out hw2
    replace hfin := Lib.hid hfin
    go_wp2_with fail
    go_ret2
    exact ⟨rfl, hfin.out⟩
  · have hR : s.act ⟨5, a, b, n, cr⟩ = (s.dirsync.1, [], s.dirsync.2) := rfl
    rw [hR]
    have hcall := DirSync_any hD g.ok
    replace hcall := Lib.hid hcall
    clear hR
    go_enter Tryz.func64, Tryz.ntmps64
    go_wp2_with fail
    refine hcall.out.mono ?_
    rintro e w2 ⟨rfl, hw2⟩
    have hfin := Went.after hal.out hw2
    replace hfin := Lib.hid hfin
    go_wp2_with fail
    go_ret2
    exact ⟨rfl, hfin.out⟩
  · have hR : s.act ⟨6, a, b, n, cr⟩ = (s.setFuse n, [], 0) := rfl
    rw [hR]
    have hcall := Fuse_any hD n
    replace hcall := Lib.hid hcall
    clear hR
    go_enter Tryz.func64, Tryz.ntmps64
    go_wp2_with fail
    refine hcall.out.mono ?_
    rintro e w2 ⟨rfl, hD2, hk2⟩
    have hfin := Went.after hal.out (.of (hk2.mono (fun k _ e => e ▸ hdF)) hD2)
    replace hfin := Lib.hid hfin
    go_wp2_with fail
    go_ret2
    exact ⟨rfl, hfin.out⟩
  · have hR : s.act ⟨7, a, b, n, cr⟩ = (s.crash cr, [], 0) := rfl
    rw [hR]
    have hcall := Crash_any hD g.ok (by omega) cr KA PA kc pc ((hr.below hal.out hC).at_ (by simp; omega) hk hp) (fun ad e h => by have := hr.under (Nat.le_refl _) ad e; have := hF _ h; omega)
    unfold craV at hcall
    replace hcall := Lib.hid hcall
    clear hR
    go_enter Tryz.func64, Tryz.ntmps64
    go_wp2_with fail
    refine hcall.out.mono ?_
    rintro e w2 ⟨rfl, hw2⟩
    have hfin := Went.after hal.out hw2
    replace hfin := Lib.hid hfin
    go_wp2_with fail
    go_ret2
    exact ⟨rfl, hfin.out⟩
  · have hR : s.act ⟨8, a, b, n, cr⟩ = (s.start, [], 0) := rfl
    rw [hR]
    have hcall := Start_any hD
    replace hcall := Lib.hid hcall
    clear hR
    go_enter Tryz.func64, Tryz.ntmps64
    go_wp2_with fail
    refine hcall.out.mono ?_
    rintro e w2 ⟨rfl, hD2, hk2⟩
    have hfin := Went.after hal.out (.of (hk2.mono (fun k _ e => e ▸ hdF)) hD2)
    replace hfin := Lib.hid hfin
    go_wp2_with fail
    go_ret2
    exact ⟨rfl, hfin.out⟩
  · have hR : s.act ⟨9, a, b, n, cr⟩ = (s, s.read a.data.toList) := rfl
    rw [hR]
    have hcall := Read_any hD g.ok a (by unfold maxLen; omega)
    replace hcall := Lib.hid hcall
    have hfin := Went.after hal.out (.of (KeptBut.refl _ _) hD)
    replace hfin := Lib.hid hfin
    clear hR
    go_enter Tryz.func64, Tryz.ntmps64
    go_wp2_with fail
    refine hcall.out.mono ?_
    rintro e w2 ⟨rfl, rfl⟩
    go_wp2_with fail
    go_ret2
    exact ⟨rfl, hfin.out⟩
  · have hR : s.act ⟨c, a, b, n, cr⟩ = (s, [], 0) := by
      unfold Dsk.act
      simp only []
      rw [if_neg (by omega), if_neg (by omega), if_neg (by omega), if_neg (by omega), if_neg (by omega), if_neg (by omega), if_neg (by omega), if_neg (by omega), if_neg (by omega), if_neg (by omega)]
    rw [hR]
    have hfin := Went.after hal.out (.of (KeptBut.refl _ _) hD)
    replace hfin := Lib.hid hfin
    clear hR
    have q0 : ¬ (c : Int) = 0 := by omega
    have q1 : ¬ (c : Int) = 1 := by omega
    have q2 : ¬ (c : Int) = 2 := by omega
    have q3 : ¬ (c : Int) = 3 := by omega
    have q4 : ¬ (c : Int) = 4 := by omega
    have q5 : ¬ (c : Int) = 5 := by omega
    have q6 : ¬ (c : Int) = 6 := by omega
    have q7 : ¬ (c : Int) = 7 := by omega
    have q8 : ¬ (c : Int) = 8 := by omega
    have q9 : ¬ (c : Int) = 9 := by omega
    go_enter Tryz.func64, Tryz.ntmps64
    go_wp2_with fail
    go_ret2
    exact ⟨rfl, hfin.out⟩
theorem Does_any {B : Nat} {w : World} {d : Nat} {s : Dsk} {m : Nat} (h : Dw B w d s) (g : s.Good m) (hm : m ≤ 536870912) (x : MAct) {C : Nat} (hx : MOk C w x) (hC : C ≤ B) (hs : MSmall x) :
    Calls Tryz.prog 64 #[.pointer (some ⟨d, 0, none⟩), mactV x] w fun e w' => e = .returned (.tuple #[.string (bs (s.act x.x).2.1), .int .i64 ((s.act x.x).2.2 : Nat)]) ∧ Dw B w' d (s.act x.x).1 ∧ Below B w w' := by
  have hB := h.size
  obtain ⟨L, hL⟩ := h
  exact (Does_went hL g hm x hx (by omega) (fun k hk => by omega) hs).mono fun e w' ⟨he, hw⟩ => ⟨he, Dw.went hw hB⟩
theorem mactsV_at : ∀ (l : List MAct) (k : Nat) (m : MAct), l[k]? = some m → ∀ j u, (mactC m)[j]? = some u → (mactsV l)[k * 7 + j]? = some u
  | [], k, m, h => by simp at h
  | a :: l, 0, m, h => by
    intro j u hu
    simp at h
    subst h
    have hj : j < 7 := (List.getElem?_eq_some_iff.1 hu).1
    show (mactC a ++ mactsV l)[0 * 7 + j]? = some u
    rw [List.getElem?_append_left (by show 0 * 7 + j < 7; omega), Nat.zero_mul, Nat.zero_add, hu]
  | a :: l, k + 1, m, h => by
    intro j u hu
    have ih := mactsV_at l k m (by simpa using h) j u hu
    show (mactC a ++ mactsV l)[(k + 1) * 7 + j]? = some u
    rw [List.getElem?_append_right (by show 7 ≤ _; omega)]
    rw [show (k + 1) * 7 + j - (mactC a).length = k * 7 + j from by show (k + 1) * 7 + j - 7 = _; omega]
    exact ih
structure ActsAt (B : Nat) (w : World) (A : Option Addr) (l : List MAct) : Prop where
  rd : Reads w B 7 A l.length (mactsV l)
  ok : ∀ m ∈ l, MOk B w m
theorem ActsAt.below {B C : Nat} {w w' : World} {A : Option Addr} {l : List MAct} (h : ActsAt B w A l) (hb : Below C w w') (hC : B ≤ C) : ActsAt B w' A l := ⟨h.rd.below (hb.mono hC), fun m hm => (h.ok m hm).below hb hC⟩
theorem ActsAt.at_ {B : Nat} {w : World} {A : Option Addr} {l : List MAct} (h : ActsAt B w A l) {k : Nat} {m : MAct} (hk : l[k]? = some m) : ∃ b o, A = some ⟨b, o, none⟩ ∧ b < B ∧ w.cell? ⟨b, o + k * 7, none⟩ = some (.int .u8 (m.x.c : Nat)) ∧ w.cell? ⟨b, o + k * 7 + 1, none⟩ = some (.string m.x.a) ∧
    w.cell? ⟨b, o + k * 7 + 2, none⟩ = some (.string m.x.b) ∧ w.cell? ⟨b, o + k * 7 + 3, none⟩ = some (.int .i64 m.x.n) ∧ w.cell? ⟨b, o + k * 7 + 4, none⟩ = some (.int .i64 m.x.cr.names) ∧
    w.cell? ⟨b, o + k * 7 + 5, none⟩ = some (.slice m.KA m.x.cr.keep.length m.kc) ∧ w.cell? ⟨b, o + k * 7 + 6, none⟩ = some (.slice m.PA m.x.cr.spoil.length m.pc) := by
  have hkl := (List.getElem?_eq_some_iff.1 hk).1
  obtain ⟨ad, e, hB, hc⟩ := h.rd.2 (by omega)
  have h0 : ∃ u, (mactsV l)[0]? = some u := by
    have := mactsV_at l 0 l[0] (List.getElem?_eq_getElem (by omega)) 0 _ rfl
    exact ⟨_, this⟩
  obtain ⟨u0, h0⟩ := h0
  obtain ⟨b, o, rfl⟩ := plain_add (hc 0 u0 h0)
  have hat := mactsV_at l k m hk
  have q := fun j u (hj : (mactC m)[j]? = some u) => hc _ _ (hat j u hj)
  simp only [add_plain2, ← Nat.add_assoc] at q
  exact ⟨b, o, e, hB, q 0 _ rfl, q 1 _ rfl, q 2 _ rfl, q 3 _ rfl, q 4 _ rfl, q 5 _ rfl, q 6 _ rfl⟩
/-- A truth is answered; if it is false, that. -/
def SaysOr (w : World) (P : Prop) (e : Ending) (w' : World) : Prop := ∃ r : Bool, e = .returned (.bool r) ∧ (r = false → P) ∧ Below w.heap.size w w'
set_option maxRecDepth 100000 in
set_option maxHeartbeats 1000000 in
theorem GreatCrash_any (w : World) (c : Cra) (KA PA : Option Addr) (kc pc : Nat) :
    Calls Tryz.prog 37 #[craV c KA kc PA pc] w (SaysOr w (c.keep.length ≤ 100 ∧ c.spoil.length ≤ 100)) := by
  have hal : Below w.heap.size w (w.alloc (.cells #[.int .i64 c.names, .slice KA c.keep.length kc, .slice PA c.spoil.length pc] 34)) := (Below.refl _ _).alloc (Nat.le_refl _) _
  unfold craV
  by_cases h1 : 100 < c.keep.length
  · have h1' : (100 : Int) < c.keep.length := by omega
    go_enter Tryz.func37, Tryz.ntmps37
    go_wp2
    go_ret
    exact ⟨true, rfl, (fun h => by cases h), hal⟩
  · have h1' : ¬ (100 : Int) < c.keep.length := by omega
    by_cases h2 : 100 < c.spoil.length
    · have h2' : (100 : Int) < c.spoil.length := by omega
      go_enter Tryz.func37, Tryz.ntmps37
      go_wp2
      go_ret
      exact ⟨true, rfl, (fun h => by cases h), hal⟩
    · have h2' : ¬ (100 : Int) < c.spoil.length := by omega
      go_enter Tryz.func37, Tryz.ntmps37
      go_wp2
      go_ret
      exact ⟨false, rfl, fun _ => ⟨by omega, by omega⟩, hal⟩
set_option maxRecDepth 100000 in
set_option maxHeartbeats 2000000 in
theorem Great_any {B : Nat} (w : World) (A : Option Addr) (l : List MAct) (cap : Nat) (h : ActsAt B w A l) (hB : B ≤ w.heap.size) (hll : l.length ≤ maxLen) :
    Calls Tryz.prog 62 #[.slice A l.length cap] w (SaysOr w (l.length ≤ 120 ∧ ∀ m ∈ l, MSmall m)) := by
  by_cases h0 : 120 < l.length
  · have h0' : (120 : Int) < l.length := by omega
    go_enter Tryz.func62, Tryz.ntmps62
    go_wp2
    go_ret
    exact ⟨true, rfl, (fun h => by cases h), Below.refl _ _⟩
  · have h0' : ¬ (120 : Int) < l.length := by omega
    replace h := Lib.hid h
    go_enter Tryz.func62, Tryz.ntmps62
    go_wp2_with fail
    go_loopw [3, 4] (fun nv iv wr => ∃ (k : Nat) (nn : Nat), k ≤ l.length ∧ iv = .int .i64 k ∧ nv = .int .i64 nn ∧ nn ≤ 40000 * k ∧ (∀ m ∈ l.take k, MSmall m) ∧ Below w.heap.size w wr) (fun _ iv _ => l.length - (intOf iv).toNat)
    case atStart => exact ⟨0, 0, Nat.zero_le _, rfl, rfl, Nat.zero_le _, (fun m hm => by simp at hm), Below.refl _ _⟩
    case round =>
      obtain ⟨k, nn, hk, rfl, rfl, hnn, hsm, hbr⟩ := hrel
      by_cases hlt : k < l.length
      · have hlt' : (k : Int) < l.length := by omega
        have hkm : l[k]? = some l[k] := List.getElem?_eq_getElem hlt
        have hmm := h.out.ok _ (List.getElem_mem hlt)
        obtain ⟨b, o, rfl, hbB, q0, q1, q2, q3, q4, q5, q6⟩ := (h.out.below hbr hB).at_ hkm
        generalize l[k] = m at *
        have hza := hmm.a
        have hzb := hmm.b
        have hbz := hbr.size
        have hbw : b < wr.heap.size := by omega
        clear hmm
        unfold maxLen at hza hzb
        have hgc := GreatCrash_any
        replace hgc := Lib.hid hgc
        replace hkm := Lib.hid hkm
        replace hsm := Lib.hid hsm
        replace hbr := Lib.hid hbr
        by_cases ha : 20000 < m.x.a.size
        · have ha' : (20000 : Int) < m.x.a.size := by omega
          go_wp2_with fail
          go_ret
          exact ⟨true, rfl, (fun h => by cases h), hbr.out⟩
        · have ha' : ¬ (20000 : Int) < m.x.a.size := by omega
          by_cases hb : 20000 < m.x.b.size
          · have hb' : (20000 : Int) < m.x.b.size := by omega
            go_wp2_with fail
            go_ret
            exact ⟨true, rfl, (fun h => by cases h), hbr.out⟩
          · have hb' : ¬ (20000 : Int) < m.x.b.size := by omega
            go_wp2_with fail
            refine (hgc.out wr m.x.cr m.KA m.PA m.kc m.pc).mono ?_
            rintro e w2 ⟨r, rfl, hr, hb2⟩
            cases r with
            | true =>
              have hbf := hbr.out.trans (hb2.mono hbz)
              clear hb2
              replace hbf := Lib.hid hbf
              go_wp2_with fail
              go_ret
              exact ⟨true, rfl, (fun h => by cases h), hbf.out⟩
            | false =>
              have hms : MSmall m := ⟨by omega, by omega, (hr rfl).1, (hr rfl).2⟩
              have r1 := (hb2.cell (p := ⟨b, o + k * 7 + 1, none⟩) hbw).trans q1
              have r2 := (hb2.cell (p := ⟨b, o + k * 7 + 2, none⟩) hbw).trans q2
              have hbf := hbr.out.trans (hb2.mono hbz)
              have hbw2 : b < w2.heap.size := by have := hb2.size; omega
              have hnx : ∀ m' ∈ l.take (k + 1), MSmall m' := by
                intro m' hm'
                rw [List.take_add_one, hkm.out] at hm'
                rcases List.mem_append.1 hm' with h1 | h1
                · exact hsm.out m' h1
                · simp at h1; rw [h1]; exact hms
              replace hnx := Lib.hid hnx
              have hb2z := hb2.size
              clear q0 q1 q2 q3 q4 q5 q6 hb2 hr
              replace hbf := Lib.hid hbf
              replace hms := Lib.hid hms
              go_wp2_with fail
              have hxc := @Ext.cell
              have hxf := @Ext.frozen
              refine wp_hide (fun Q0 hQ0 => ?_)
              refine wp_region_line (fun w' => ∃ x : Ext _, w' = x.w) [some false, some false, some false, some false, some false, some false, some false, some false, some false, some false, some false, some false, some false, some false, some false, some false] 0 (by kernel_rfl) (by kernel_rfl) ⟨⟨_, (Below.refl _ _).drew⟩, rfl⟩ ?_
              simp only [earlyL, tailL]
              repeat (first | ((with_reducible refine wpMix_p ?_); go_big_quiet_step (fail); refine wpQuiet_nil ?_) | ((with_reducible refine wpMix_e ?_); go_big_quiet_step ((first | fail)); refine wpQuiet_nil ?_))
              refine wpMix_nil ?_
              clear hxc hxf
              intro wx hwx
              obtain ⟨x, hx⟩ := hwx
              have hb := x.below
              rw [← hx] at hb
              clear hx x
              refine wpTail_nil ?_
              refine hQ0 _ _ ?_
              clear hQ0 Q0
              have hbg := hbf.out.trans (hb.mono (by omega))
              replace hbg := Lib.hid hbg
              clear hb r1 r2
              go_wp2_with fail
              go_roundw
              case rel => exact ⟨k + 1, nn + m.x.a.size + m.x.b.size, by omega, by rfl, by go_num, by omega, hnx.out, hbg.out⟩
              case measure => first | omega | (simp only [intOf]; omega)
      · obtain rfl : k = l.length := by omega
        have hlt' : ¬ (l.length : Int) < l.length := by omega
        have hall : ∀ m ∈ l, MSmall m := fun m hm => hsm m (by rw [List.take_length]; exact hm)
        replace hall := Lib.hid hall
        replace hsm := Lib.hid hsm
        replace hbr := Lib.hid hbr
        go_wp2_with fail
        go_ret
        exact ⟨_, rfl, fun _ => ⟨by omega, hall.out⟩, hbr.out⟩
/-- A batch that came in. -/
structure ArgM (N0 : Nat) (w : World) (x : MB) : Prop where
  at_ : ∃ A cap, x.v = .slice A x.b.ops.length cap ∧ OpsR w N0 A x.b.ops
  seq : x.b.seq < 18446744073709551616
theorem ArgM.below {N0 C : Nat} {w w' : World} {x : MB} (h : ArgM N0 w x) (hb : Below C w w') (hC : N0 ≤ C) : ArgM N0 w' x := by
  obtain ⟨A, cap, e, hr⟩ := h.at_
  exact ⟨⟨A, cap, e, hr.below hb hC⟩, h.seq⟩
/-- A round in memory. -/
structure RM where
  bats : List MB
  BA : Option Addr
  bc : Nat
  news : List Bool
  NA : Option Addr
  nc : Nat
  fuse : Int
  cr : Cra
  KA : Option Addr
  kc : Nat
  PA : Option Addr
  pc : Nat
def rmC (r : RM) : List Value := [.slice r.BA r.bats.length r.bc, .slice r.NA r.news.length r.nc, .int .i64 r.fuse, .int .i64 r.cr.names, .slice r.KA r.cr.keep.length r.kc, .slice r.PA r.cr.spoil.length r.pc]
theorem rmC_len (r : RM) : (rmC r).length = 6 := rfl
def RM.plain (r : RM) : RoundE := ⟨r.bats.map (·.b), r.news, r.fuse, r.cr⟩
def boolV (l : List Bool) : List Value := l.map Value.bool
structure RmOk (N0 : Nat) (w : World) (r : RM) : Prop where
  bats : Reads w N0 2 r.BA r.bats.length (mbV r.bats)
  each : ∀ x ∈ r.bats, ArgM N0 w x
  news : Reads w N0 1 r.NA r.news.length (boolV r.news)
  cr : CraR N0 w r.cr r.KA r.PA
  fuse : r.fuse ≤ 9223372036854775807 ∧ -9223372036854775808 ≤ r.fuse
theorem RmOk.below {N0 C : Nat} {w w' : World} {r : RM} (h : RmOk N0 w r) (hb : Below C w w') (hC : N0 ≤ C) : RmOk N0 w' r :=
  ⟨h.bats.below (hb.mono hC), fun x hx => (h.each x hx).below hb hC, h.news.below (hb.mono hC), h.cr.below hb hC, h.fuse⟩
/-- What stands along a round. -/
structure GoI (X0 : Nat → Prop) (w wr : World) (X : Nat → Prop) (d : Nat) (s : Dsk) (tv : Value) (told : List MB) : Prop where
  dx : Dx X wr d s
  hX : ∀ k, X k → k < wr.heap.size
  sub : ∀ k, X0 k → X k
  keep : Keeps X0 w wr
  row : wr.ownsRow w.heap.size 53 2 tv told.length (mbV told)
  inX : ∀ k, tv.ownBlock = some k → X k
section
variable {X0 X : Nat → Prop} {w wr w' : World} {d : Nat} {s s' : Dsk} {tv : Value} {told : List MB}
theorem GoI.op (h : GoI X0 w wr X d s tv told) (hd : Dx X w' d s') (hk : Keeps X wr w') : GoI X0 w w' X d s' tv told :=
  ⟨hd, fun k hk' => Nat.lt_of_lt_of_le (h.hX k hk') hk.size, h.sub, h.keep.trans hk h.sub, hk.own h.row h.inX, h.inX⟩
theorem GoI.grow (h : GoI X0 w wr X d s tv told) (hb : Below wr.heap.size wr w') : GoI X0 w w' X d s tv told :=
  h.op (h.dx.grow hb (fun k => .inl)) (Keeps.of_below hb h.hX)
theorem GoI.log (h : GoI X0 w wr X d s tv told) {lg : Nat} (hd : Dx (fun k => X k ∨ k = lg) w' d s') (hk : Keeps X wr w') (hl : lg < w'.heap.size) : GoI X0 w w' (fun k => X k ∨ k = lg) d s' tv told :=
  ⟨hd, fun k hk' => by
    rcases hk' with q | q
    · exact Nat.lt_of_lt_of_le (h.hX k q) hk.size
    · omega, fun k q => .inl (h.sub k q), h.keep.trans hk h.sub, hk.own h.row h.inX, fun k q => .inl (h.inX k q)⟩
theorem GoI.form (h : GoI X0 w wr X d s tv told) : ∃ A cap, tv = .slice A told.length cap := by
  rcases h.row.2 with ⟨rfl, e⟩ | ⟨g, cap, cur, rfl, _⟩
  · exact ⟨none, 0, by rw [e]⟩
  · exact ⟨_, cap, rfl⟩
/-- One more is told. -/
theorem GoI.app (h : GoI X0 w wr X d s tv told) (hX0 : ∀ k, X0 k → k < w.heap.size) {x : MB} {o : Obj} {v2 : Value} {w6 : World} (ho6 : w6.ownsRow w.heap.size 53 2 v2 (told.length + 1) (mbV told ++ mbC x)) (hg6 : (wr.alloc o).grownBy w6 tv.ownBlock) (hat : v2.ownBlock = tv.ownBlock ∨ v2.ownBlock = some (wr.alloc o).heap.size) :
    GoI X0 w w6 (fun k => X k ∨ v2.ownBlock = some k) d s v2 (told ++ [x]) ∧ ∀ g t cs, Blk wr g t cs → t ≠ 53 → Blk w6 g t cs := by
  have h1 := h.grow ((Below.refl _ _).alloc (Nat.le_refl _) o)
  have hk : KeptBut (wr.alloc o) w6 (fun k => tv.ownBlock = some k) := ⟨hg6.os, hg6.tape, hg6.output, hg6.size, fun k hk hs => hg6.block k hk (fun e => hs e.symm)⟩
  have hv : ∀ k, v2.ownBlock = some k → X k ∨ k = (wr.alloc o).heap.size := fun k hk2 => by
    rcases hat with e | e
    · exact .inl (h.inX k (by rw [← e]; exact hk2))
    · rw [e] at hk2
      injection hk2 with hk2
      exact .inr hk2.symm
  have hlt2 : ∀ k, v2.ownBlock = some k → k < w6.heap.size := fun k hk2 => (own_lt ho6 k hk2).2
  refine ⟨⟨?_, fun k hk2 => ?_, fun k q => .inl (h1.sub k q), ?_, ?_, fun k q => .inr q⟩, fun g t cs hb ht => ?_⟩
  · obtain ⟨F, L, hL, hF⟩ := h1.dx.beside hk (fun k e => .inl (h.inX k e))
    obtain ⟨F0, L0, hL0, hF0⟩ := h1.dx
    refine ⟨F0, L0, hL0.kept hk (fun k hf hs => (hF0 k hf).2 (h.inX k hs)), fun k hf => ⟨by have := (hF0 k hf).1; have := hk.size; omega, fun q => ?_⟩⟩
    rcases q with q | q
    · exact (hF0 k hf).2 q
    · rcases hv k q with q | q
      · exact (hF0 k hf).2 q
      · have := (hF0 k hf).1; omega
  · rcases hk2 with q | q
    · have := h1.hX k q; have := hk.size; omega
    · exact hlt2 k q
  · refine ⟨hk.os.trans h1.keep.os, hk.tape.trans h1.keep.tape, hk.output.trans h1.keep.output, Nat.le_trans h1.keep.size hk.size, fun k q => (hk.block k (by have := h1.keep.size; have := hX0 k q; omega) (fun e => ?_)).trans (h1.keep.block k q)⟩
    have := (own_lt h.row k e).1
    have := hX0 k q
    omega
  · unfold mbV
    rw [List.length_append, List.flatMap_append]
    simpa [mbV] using ho6
  · have hb1 := hb.alloc o
    exact hb1.keptB hk (fun e => own_blk_ne h.row hb (Ne.symm ht) e)
end
end Go.Proofs.YtdbpfemkjfogoaaGreatDoor
namespace Go.Proofs.YtdbpfemkjfogoaaGreatDoor
set_option linter.unusedVariables false
set_option linter.unusedSimpArgs false
/-- The logs that there are now, lasting or not. -/
structure Vw (s : Dsk) (l : List LogE) : Prop where
  srt : l.Pairwise fun a b => a.1 < b.1
  num : ∀ q ∈ l, q.1 < 18446744073709551616
  on : OnM s.names l
  file : ∀ q ∈ l, ∃ k, s.files[q.2.1]? = some ⟨q.2.2, k⟩
  nd : s.names.Nodup
section
variable {s : Dsk} {l : List LogE}
theorem Cl.vw (h : Cl s l) (hd : s.Dir) : Vw s l := ⟨h.srt, h.num, h.onN, fun q hq => ⟨_, (h.held q hq).file⟩, nodup_of_map _ hd.cur.1⟩
theorem Vw.logs (h : Vw s l) : s.logsW = l.map (·.1) := by
  have hlm : (l.map fun q => ((nameW q.1, q.2.1) : List UInt8 × Nat)).Nodup := by
    unfold List.Nodup
    rw [List.pairwise_map]
    refine List.Pairwise.imp_of_mem ?_ h.srt
    intro a b ha hb hab e
    injection e with e _
    have := nameW_inj (h.num a ha) (h.num b hb) e
    omega
  have hp : s.names.Perm (l.map fun q => ((nameW q.1, q.2.1) : List UInt8 × Nat)) := by
    rw [List.perm_ext_iff_of_nodup h.nd hlm]
    intro p
    constructor
    · intro hp
      obtain ⟨q, hq, e⟩ := h.on.2 p hp
      exact List.mem_map.2 ⟨q, hq, e.symm⟩
    · intro hp
      obtain ⟨q, hq, e⟩ := List.mem_map.1 hp
      rw [← e]
      exact getM_mem (h.on.1 q hq).1
  have hf := hp.filterMap (fun p => numP logW p.1)
  have hid : ∀ k : List LogE, (∀ q ∈ k, q.1 < 18446744073709551616) → List.filterMap (fun p : List UInt8 × Nat => numP logW p.1) (k.map fun q => (nameW q.1, q.2.1)) = k.map (·.1) := by
    intro k
    induction k with
    | nil => intro _; rfl
    | cons q k ih =>
      intro hk
      rw [List.map_cons, List.filterMap_cons_some (f := fun p : List UInt8 × Nat => numP logW p.1) (a := (nameW q.1, q.2.1)) (b := q.1) (numP_name logW q.1 (hk q (List.mem_cons_self ..))), ih (fun x hx => hk x (List.mem_cons_of_mem _ hx)), List.map_cons]
  rw [hid l h.num] at hf
  unfold Dsk.logsW
  refine sorted_eq _ _ ?_ ?_ ((List.mergeSort_perm _ _).trans hf)
  · have := List.pairwise_mergeSort (le := fun a b : Nat => decide (a ≤ b)) (fun a b c h1 h2 => by simp only [decide_eq_true_eq] at *; omega) (fun a b => by simp only [Bool.or_eq_true, decide_eq_true_eq]; omega) (s.names.filterMap fun p => numP logW p.1)
    exact this.imp fun h => by simpa using h
  · rw [List.pairwise_map]
    exact h.srt.imp fun hab => by omega
theorem Vw.read (h : Vw s l) (hoff : s.off = false) {q : LogE} (hq : q ∈ l) : s.read (nameW q.1) = (q.2.2, 0) := by
  obtain ⟨k, hf⟩ := h.file q hq
  unfold Dsk.read
  rw [if_neg (by rw [hoff]; decide), (h.on.1 q hq).1]
  simp only
  rw [hf]
theorem Vw.replay (h : Vw s l) (hoff : s.off = false) (k : Nat) : s.replayW k = (contW (l.filter fun q => decide (k ≤ q.1)), 0) := by
  unfold Dsk.replayW
  rw [if_neg (by rw [hoff]; decide), h.logs, List.filter_map]
  have : ∀ m : List LogE, (∀ q ∈ m, q ∈ l) → (m.map (·.1)).flatMap (fun n => batL (s.read (nameW n)).1) = contW m := by
    intro m
    induction m with
    | nil => intro _; rfl
    | cons q m ih =>
      intro hm
      have ih' := ih (fun x hx => hm x (List.mem_cons_of_mem _ hx))
      unfold contW at *
      rw [List.map_cons, List.flatMap_cons, List.flatMap_cons, ih', h.read hoff (hm q (List.mem_cons_self ..))]
  have h2 := this (l.filter ((fun n => decide (k ≤ n)) ∘ (·.1))) (fun q hq => (List.mem_filter.1 hq).1)
  rw [h2]
  rfl
/-- A log goes. -/
theorem Vw.delete {q : LogE} (h : Vw s (q :: l)) (hoff : s.off = false) (hf : s.fuse = 0) : (s.delete (nameW q.1)).2 = 0 ∧ (s.delete (nameW q.1)).1.off = false ∧ (s.delete (nameW q.1)).1.fuse = 0 ∧ Vw (s.delete (nameW q.1)).1 l := by
  have hb : s.burn = s := Dsk.burn_zero (by omega)
  have hdo : doesC s.names ⟨nameW q.1, [], none⟩ = delM (nameW q.1) s.names := by
    unfold doesC
    simp only [if_true]
    rw [if_neg (nameW_ne _)]
  have hdel : s.delete (nameW q.1) = ({ s with names := delM (nameW q.1) s.names, chg := s.chg ++ [⟨nameW q.1, [], none⟩] }, 0) := by
    unfold Dsk.delete
    rw [if_neg (by rw [hoff]; decide), (h.on.1 q (List.mem_cons_self ..)).1]
    simp only
    unfold Dsk.changed
    rw [hb, if_neg (by rw [hoff]; decide), hdo]
  rw [hdel]
  have hs := List.pairwise_cons.1 h.srt
  refine ⟨rfl, hoff, hf, hs.2, fun x hx => h.num x (List.mem_cons_of_mem _ hx), ⟨fun x hx => ?_, fun p hp => ?_⟩, fun x hx => h.file x (List.mem_cons_of_mem _ hx), h.nd.sublist List.filter_sublist⟩
  · have hne : nameW q.1 ≠ nameW x.1 := fun e => by
      have h1 := nameW_inj (h.num q (List.mem_cons_self ..)) (h.num x (List.mem_cons_of_mem _ hx)) e
      have h2 := hs.1 x hx
      omega
    obtain ⟨h1, h2⟩ := h.on.1 x (List.mem_cons_of_mem _ hx)
    exact ⟨by show getM _ (delM _ _) = _; rw [getM_del hne]; exact h1, fun p hp e => h2 p ((delM_mem _ _ _).1 hp).1 e⟩
  · obtain ⟨h1, h2⟩ := (delM_mem _ _ _).1 hp
    obtain ⟨x, hx, e⟩ := h.on.2 p h1
    rcases List.mem_cons.1 hx with rfl | hx
    · exact absurd (by rw [e]) h2
    · exact ⟨x, hx, e⟩
end
/-- Logs go, one behind the other. -/
def goneW : List Nat → Dsk → Dsk × Nat
  | [], s => (s, 0)
  | n :: r, s => if (s.delete (nameW n)).2 = 0 then goneW r (s.delete (nameW n)).1 else s.delete (nameW n)
def Dsk.retireW (s : Dsk) (k : Nat) : Dsk × Nat := if s.off then (s, 7) else goneW (s.logsW.filter fun n => decide (n < k)) s
theorem goneW_vw : ∀ (a : List LogE) {s : Dsk} {l : List LogE}, Vw s (a ++ l) → s.off = false → s.fuse = 0 → (goneW (a.map (·.1)) s).2 = 0 ∧ (goneW (a.map (·.1)) s).1.off = false ∧ Vw (goneW (a.map (·.1)) s).1 l
  | [], s, l, h, ho, hf => ⟨rfl, ho, h⟩
  | q :: a, s, l, h, ho, hf => by
    obtain ⟨e, ho', hf', h'⟩ := Vw.delete (l := a ++ l) h ho hf
    rw [List.map_cons]
    unfold goneW
    rw [if_pos e]
    exact goneW_vw a h' ho' hf'
/-- Rising logs, parted at a number. -/
theorem srt_part (k : Nat) : ∀ (l : List LogE), l.Pairwise (fun a b => a.1 < b.1) → l = (l.filter fun q => decide (q.1 < k)) ++ l.filter fun q => decide (k ≤ q.1)
  | [], _ => rfl
  | q :: l, h => by
    rw [List.pairwise_cons] at h
    have ih := srt_part k l h.2
    by_cases hk : q.1 < k
    · rw [List.filter_cons_of_pos (by simpa using hk), List.filter_cons_of_neg (by simp; omega), List.cons_append, ← ih]
    · have hno : (l.filter fun x => decide (x.1 < k)) = [] := by
        rw [List.filter_eq_nil_iff]
        intro x hx
        have := h.1 x hx
        simp
        omega
      rw [List.filter_cons_of_neg (by simpa using hk), List.filter_cons_of_pos (by simp; omega), hno, List.nil_append]
      rw [hno, List.nil_append] at ih
      rw [← ih]
/-- WalParts' plain law. -/
theorem parts_law {s : Dsk} {l : List LogE} {M : Nat} (h : BetW s l M) (hf : s.fuse = 0) (k : Nat) :
    let part := contW (l.filter fun q => decide (k ≤ q.1))
    s.replayW 0 = (contW l, 0) ∧ s.replayW k = (part, 0) ∧ part.length ≤ (contW l).length ∧ part = (contW l).drop ((contW l).length - part.length) ∧
      (s.retireW k).2 = 0 ∧ (s.retireW k).1.replayW 0 = (part, 0) ∧ (s.retireW k).1.logsW = (l.filter fun q => decide (k ≤ q.1)).map (·.1) := by
  have hv := h.cl.vw h.dir
  have hp := srt_part k l h.cl.srt
  have hc : contW l = contW (l.filter fun q => decide (q.1 < k)) ++ contW (l.filter fun q => decide (k ≤ q.1)) := by
    conv => lhs; rw [hp]
    unfold contW
    rw [List.flatMap_append]
  have hv2 := hv
  rw [hp] at hv2
  obtain ⟨g1, g2, g3⟩ := goneW_vw _ hv2 h.off hf
  have hr : s.retireW k = goneW ((l.filter fun q => decide (q.1 < k)).map (·.1)) s := by
    unfold Dsk.retireW
    rw [if_neg (by rw [h.off]; decide), hv.logs, List.filter_map]
    rfl
  simp only
  rw [hr]
  refine ⟨h.replay, hv.replay h.off k, by rw [hc, List.length_append]; omega, ?_, g1, ?_, g3.logs⟩
  · conv => rhs; rw [hc]
    rw [List.length_append, Nat.add_sub_cancel, List.drop_left]
  · rw [g3.replay g2 0]
    congr 2
    rw [List.filter_eq_self]
    intro q _
    simp
section
variable {s : Dsk} {l : List LogE}
theorem changed_calm (hoff : s.off = false) (hf : s.fuse = 0) (c : Chg) : (s.changed c).2 = 0 ∧ (s.changed c).1.off = false ∧ (s.changed c).1.fuse = 0 := by
  have hb : s.burn = s := Dsk.burn_zero (by omega)
  unfold Dsk.changed
  rw [hb, if_neg (by rw [hoff]; decide)]
  exact ⟨rfl, hoff, hf⟩
theorem create_calm (hoff : s.off = false) (hf : s.fuse = 0) (n : Nm) : (s.create n).2 ≠ 7 ∧ (s.create n).1.off = false ∧ (s.create n).1.fuse = 0 := by
  unfold Dsk.create
  rw [if_neg (by rw [hoff]; decide)]
  split
  · exact ⟨(fun h => by cases h), hoff, hf⟩
  · split
    · obtain ⟨h1, h2, h3⟩ := @changed_calm { s with files := s.files ++ [⟨[], 0⟩] } hoff hf ⟨[], n, some s.files.length⟩
      exact ⟨by rw [h1]; decide, h2, h3⟩
    · exact ⟨(fun h => by cases h), hoff, hf⟩
theorem dirsync_calm (hoff : s.off = false) (hf : s.fuse = 0) : s.dirsync.2 = 0 ∧ s.dirsync.1.off = false ∧ s.dirsync.1.fuse = 0 := by
  have hb : s.burn = s := Dsk.burn_zero (by omega)
  unfold Dsk.dirsync
  rw [if_neg (by rw [hoff]; decide), hb, if_neg (by rw [hoff]; decide)]
  exact ⟨rfl, hoff, hf⟩
theorem append_calm (hoff : s.off = false) (hf : s.fuse = 0) (n : Nm) (x : List UInt8) : (s.append n x).2 ≠ 7 ∧ (s.append n x).1.off = false ∧ (s.append n x).1.fuse = 0 := by
  have hb : s.burn = s := Dsk.burn_zero (by omega)
  unfold Dsk.append
  rw [if_neg (by rw [hoff]; decide)]
  split
  · exact ⟨(fun h => by cases h), hoff, hf⟩
  · split
    · exact ⟨(fun h => by cases h), hoff, hf⟩
    · rw [hb, if_neg (by rw [hoff]; decide)]
      exact ⟨(fun h => by cases h), hoff, hf⟩
theorem sync_calm (hoff : s.off = false) (hf : s.fuse = 0) (n : Nm) : (s.sync n).2 ≠ 7 ∧ (s.sync n).1.off = false ∧ (s.sync n).1.fuse = 0 := by
  have hb : s.burn = s := Dsk.burn_zero (by omega)
  unfold Dsk.sync
  rw [if_neg (by rw [hoff]; decide)]
  split
  · exact ⟨(fun h => by cases h), hoff, hf⟩
  · rw [hb, if_neg (by rw [hoff]; decide)]
    exact ⟨(fun h => by cases h), hoff, hf⟩
theorem beginW_calm (hoff : s.off = false) (hf : s.fuse = 0) (n : Nat) : (s.beginW n).2 ≠ 7 ∧ (s.beginW n).1.off = false ∧ (s.beginW n).1.fuse = 0 := by
  obtain ⟨h1, h2, h3⟩ := create_calm hoff hf (nameW n)
  unfold Dsk.beginW
  split
  · obtain ⟨g1, g2, g3⟩ := dirsync_calm h2 h3
    exact ⟨by rw [g1]; decide, g2, g3⟩
  · exact ⟨h1, h2, h3⟩
theorem addW_calm (hoff : s.off = false) (hf : s.fuse = 0) (n : Nat) (b : BatE) : (s.addW n b).2 ≠ 7 := by
  unfold Dsk.addW
  split
  · obtain ⟨h1, h2, h3⟩ := append_calm hoff hf (nameW n) (frameL (encB b))
    split
    · exact (sync_calm h2 h3 _).1
    · exact h1
  · rcases chkB_cases b with e | e | e <;> simp only [e] <;> decide
end
/-- WalFull's plain law: behind a log that is begun, an Add that is told OK adds; any other one leaves the disk az it was. -/
theorem full_law {s : Dsk} {l : List LogE} {M : Nat} (h : BetW s l M) (hf : s.fuse = 0) (hb : M + 1 < 18446744073709551615) (b : BatE) :
    let n := nextN s.logsW
    let t := s.nextW.1
    s.nextW.2 = 0 ∧ t.off = false ∧ t.replayW 0 = (contW l, 0) ∧
      (((t.addW n b).2 = 0 ∧ (t.addW n b).1.replayW 0 = (contW l ++ [b], 0)) ∨ ((t.addW n b).2 ≠ 0 ∧ ((t.addW n b).2 = 6 ∨ (t.addW n b).2 = chkB b) ∧ (t.addW n b).1 = t)) := by
  obtain ⟨a1, a2⟩ := next_above h.cl M h.num
  simp only
  unfold Dsk.nextW
  rw [h.cl.logs h.dir]
  generalize nextN (l.map (·.1)) = n2 at *
  have okb := h.ok.beginW n2
  have hdb := h.dir.beginW h.ok n2
  obtain ⟨c1, c2, c3⟩ := beginW_calm h.off hf n2
  rcases h.cl.begin h.ok h.off a1 (by omega) with ⟨e, hof, hC⟩ | ⟨e, _⟩
  · have hr : (s.beginW n2).1.replayW 0 = (contW l, 0) := by
      rw [hC.replay0 hdb hof, contW_snoc]
      simp only
      rw [batL_nil, List.append_nil]
    refine ⟨e, hof, hr, ?_⟩
    by_cases hc : chkB b = 0
    · have hC2 : Cl (s.beginW n2).1 (l ++ [(n2, s.files.length, logL [])]) := hC
      rcases hC2.add hof hc with ⟨e1, ho1, hA⟩ | ⟨e1, es⟩ | ⟨e1, _⟩
      · refine .inl ⟨e1, ?_⟩
        rw [hA.replay0 (hdb.addW n2 b) ho1, contW_snoc]
        simp only
        rw [← logL_snoc]
        have := batL_log [b] [] (fun x hx => by rw [List.mem_singleton.1 hx]; exact hc)
        rw [batL_nil, List.append_nil, List.append_nil] at this
        rw [List.nil_append, this]
      · exact .inr ⟨by rw [e1]; decide, .inl e1, es⟩
      · exact absurd e1 (addW_calm hof c3 n2 b)
    · have ea : (s.beginW n2).1.addW n2 b = ((s.beginW n2).1, chkB b) := by unfold Dsk.addW; rw [if_neg hc]
      rw [ea]
      exact .inr ⟨hc, .inr rfl, rfl⟩
  · exact absurd e c1
end Go.Proofs.YtdbpfemkjfogoaaGreatDoor
