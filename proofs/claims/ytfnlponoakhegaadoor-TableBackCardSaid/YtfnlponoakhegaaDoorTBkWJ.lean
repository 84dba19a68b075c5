/- TableBack: the walk. -/
import Derived.Test.YtfnlponoakhegaaDoorTRgXJ
import Derived.Test.YtfnlponoakhegaaDoorT3J
namespace Go.Proofs.YtfnlponoakhegaaDoor
open Go.RowKit
set_option linter.unusedVariables false
set_option linter.unusedSimpArgs false
def leastN (own : List Ent) (i : Nat) : Nat := (own.take i).foldl (fun a e => min a e.seq) (headD own)
def mostN (own : List Ent) (i : Nat) : Nat := (own.take i).foldl (fun a e => max a e.seq) (headD own)
theorem leastN_succ {own : List Ent} {i : Nat} {e : Ent} (h : own[i]? = some e) : leastN own (i + 1) = min (leastN own i) e.seq := by
  obtain ⟨hi, rfl⟩ := List.getElem?_eq_some_iff.1 h
  unfold leastN
  rw [List.take_succ_eq_append_getElem hi, List.foldl_append]
  rfl
theorem mostN_succ {own : List Ent} {i : Nat} {e : Ent} (h : own[i]? = some e) : mostN own (i + 1) = max (mostN own i) e.seq := by
  obtain ⟨hi, rfl⟩ := List.getElem?_eq_some_iff.1 h
  unfold mostN
  rw [List.take_succ_eq_append_getElem hi, List.foldl_append]
  rfl
/-- Is an entry the newest one of its key at a number? -/
def NewP (own : List Ent) (i : Nat) (e : Ent) (at_ : Nat) : Prop := ∀ j x, j + 1 = i → own[j]? = some x → x.key ≠ e.key ∨ at_ < x.seq
structure BkP (own : List Ent) (f : L) (ix : List (L × L)) (bls : List (List (L × L))) (at_ : Nat) : Prop where
  rng : rangeP ix bls [] [] = own
  bl : bls.length = ix.length
  fl : f.length ≤ 68719476736
  may : ∀ (i : Nat) e, own[i]? = some e → mayL f e.key = true
  own_ : ∀ (i : Nat) e, own[i]? = some e → getP f ix bls e.key e.seq = some e
  new : ∀ (i : Nat) e, own[i]? = some e → e.seq ≤ at_ → NewP own i e at_ → getP f ix bls e.key at_ = some e
  is_ : ∀ key b, getP f ix bls key at_ = some b → b.key = key ∧ b.seq ≤ at_
set_option maxRecDepth 100000 in
set_option maxHeartbeats 4000000 in
theorem TBack_any (A : Option Addr) (l : List Ent) (cap : Nat) (at_ : Nat) (w : World) (hG : Gl w) (hr : Reads w w.heap.size 4 A l.length (entsC l)) (hl : l.length ≤ 9223372036854775807) (hs : ∀ e ∈ l, e.key.length ≤ 9223372036854775807 ∧ e.value.length ≤ 9223372036854775807 ∧ e.seq < 18446744073709551616) (hat : at_ < 18446744073709551616) :
    Calls Tryd.prog 5 #[.slice A l.length cap, .int .u64 (at_ : Nat)] w fun e w' => e = .returned (.bool true) ∧ Below w.heap.size w w' := by
  have hgr := GreatE_any A l cap w hr hl (fun e he => ⟨(hs e he).1, (hs e he).2.1⟩)
  have hawk := Lib.hid awake_any
  have hGl := hG.lt
  cases hgp : greatP l
  · rw [hgp] at hgr
    obtain ⟨hl100, hsz⟩ := greatP_not hgp
    replace hgr := Lib.hid hgr
    replace hgp := Lib.hid hgp
    go_enter Tryd.func5, Tryd.ntmps5
    go_wp2_with fail
    refine hgr.out.mono ?_
    rintro e wc ⟨rfl, hb1⟩
    have hz1 := hb1.size
    have htk := taken_any A l cap wc (hG.below hb1 hGl) ((hr.below hb1).more hz1) (by omega) (fun e he => (hs e he).2.2)
    have hop := @opened 3 1 l (by omega)
    have hX := runX_I 3 1 l
    have hfn := @file_nil 3 1 l
    have hfT := @finT_own 3 1 l
    unfold fileX at hfn
    obtain ⟨r, hrr⟩ : ∃ r, r = runX 3 1 l := ⟨_, rfl⟩
    rw [← hrr] at htk hop hX hfn hfT
    obtain ⟨⟨bl, cu, h6, h7⟩, hrun, hlen, hsub⟩ := hX
    have hent : entSz r.2.2 ≤ 8000 := Nat.le_trans (entSz_sub hsub) hsz
    have hfl := h6.file_len (by omega) hent
    have hsmall := h6.small
    obtain ⟨S, hS⟩ : ∃ S, S = r.2.1 ++ r.1.outL := ⟨_, rfl⟩
    rw [← hS] at htk hop hfl hfn hfT
    replace hS := Lib.hid hS
    obtain ⟨x, hxx⟩ : ∃ x, x = finT r := ⟨_, rfl⟩
    rw [← hxx] at htk hfT
    replace hxx := Lib.hid hxx
    replace hrr := Lib.hid hrr
    clear h6 h7 hrun
    have hbs : (bs S).size = S.length := bs_size _
    have hfe : finE r = if r.2.2 = [] then 9 else 0 := rfl
    generalize finE r = fe at *
    obtain ⟨own, hown⟩ : ∃ own, own = r.2.2 := ⟨_, rfl⟩
    rw [← hown] at htk hop hfn hlen hfe hsmall hfT
    replace hown := Lib.hid hown
    by_cases hne : own = []
    · have hS0 : S = [] := hfn hne
      rw [if_pos hne] at hfe
      clear hop hfn hfT
      subst hne hfe
      replace htk := Lib.hid htk
      go_wp2_with fail
      refine htk.out.mono ?_
      rintro e w2 ⟨v, rfl, hO2, hb2⟩
      have hb02 := hb1.trans (hb2.mono hz1)
      obtain ⟨Ao, co, rfl⟩ := hO2.form
      have hal : Below w.heap.size w (w2.alloc (.cells (tiC x) 26)) := hb02.alloc hb02.size _
      have haw := Lib.hid (hawk.out _ (hG.below hal hGl))
      have hbe : (bs []).toList = [] := bs_toList _
      unfold tiC strV at hal haw ⊢
      rw [hS0]
      go_wp2_with fail
      refine haw.out.mono ?_
      rintro e w4 ⟨rfl, hb4⟩
      go_wp2_with fail
      go_ret
      exact ⟨rfl, hal.trans (hb4.mono hal.size)⟩
    · obtain ⟨bls, hop1, hRI⟩ := hop hne
      rw [if_neg hne] at hfe
      subst hfe
      have hP : BkP own (filterL r.1.fin.keys) (ixOf 0 bls) bls at_ := ⟨by rw [range_run hRI, all_in], (ixOf_len bls 0).symm, hRI.may_len (by omega), fun i e he => hRI.may (List.mem_of_getElem? he), fun i e he => get_own hRI he, fun i e he hle hn => get_newest hRI he (by omega) hle hn, fun key b hb => ⟨(get_is hRI (by omega) hb).1, (get_is hRI (by omega) hb).2.1⟩⟩
      have hxT := hfT hne
      clear hop hfn hRI hfT
      generalize filterL r.1.fin.keys = f at *
      generalize ixOf 0 bls = ix at *
      have hol : own.length ≠ 0 := fun e => hne (List.eq_nil_of_length_eq_zero e)
      have holi : ¬ ((own.length : Nat) : Int) = 0 := by omega
      have holb : (((own.length : Nat) : Int) == 0) = false := by simpa using holi
      replace htk := Lib.hid htk
      replace hxT := Lib.hid hxT
      go_wp2_with fail
      refine htk.out.mono ?_
      rintro e w2 ⟨v, rfl, hO2, hb2⟩
      have hb02 := hb1.trans (hb2.mono hz1)
      obtain ⟨Ao, co, rfl⟩ := hO2.form
      have hal : Below w.heap.size w (w2.alloc (.cells (tiC x) 26)) := hb02.alloc hb02.size _
      have hO3 : OwnE (w2.alloc (.cells (tiC x) 26)) wc.heap.size (.slice Ao own.length co) own := hO2.below ((Below.refl _ _).alloc (Nat.le_refl _) _)
      have hX3 := Blk.new w2 26 (tiC x)
      have hopn := TOpen_any (bs S) (w2.alloc (.cells (tiC x) 26)) (by rw [bs_size]; exact hfl) (hG.below hal hGl)
      rw [bs_data, hop1] at hopn
      replace hopn := Lib.hid hopn
      unfold tiC strV at hal hopn hO3 hX3 ⊢
      go_wp2_with fail
      refine hopn.out.mono ?_
      rintro e w4 ⟨⟨gt, rfl, hTF⟩, hb4⟩
      have hO4 := hO3.below hb4
      have hb04 := hal.trans (hb4.mono hal.size)
      have hX4 := hX3.below hb4 hX3.lt
      have hTT := hTF.at_
      simp only at hTT
      have hG4 := hG.below hb04 hGl
      clear hopn hb4 hal hO2 hO3 hTF htk hop1 hX3
      have hal2 := All_any hTT hP.bl hG4
      rw [hP.rng] at hal2
      replace hal2 := Lib.hid hal2
      go_wp2_with fail
      refine hal2.out.mono ?_
      rintro e w5 ⟨v5, rfl, hO5, hb5⟩
      obtain ⟨A5, c5, rfl⟩ := hO5.form
      have hb05 := hb04.trans (hb5.mono hb04.size)
      have hO45 := hO4.below hb5
      have hsm := Lib.hid (Same_refl A5 Ao own c5 co w5 (Reads.of_own hO5) (Reads.of_own hO45) (by omega))
      clear hal2
      go_wp2_with fail
      refine hsm.out.mono ?_
      rintro e w6 ⟨rfl, hb6⟩
      have hb46 := hb5.trans (hb6.mono hb5.size)
      have hb06 := hb04.trans (hb46.mono hb04.size)
      have hO6 := hO4.below hb46
      have hTT6 := hTT.below hb46
      have hX6 := hX4.below hb46 hX4.lt
      clear hsm hO5 hb5 hO45 hb6 hb05 hb46 hO4 hTT hX4 hb04 hG4
      have hrd6 : Reads w6 w6.heap.size 4 Ao own.length (entsC own) := Reads.of_own hO6
      obtain ⟨ad, rfl, hab, acell⟩ := hrd6.2 (by omega)
      obtain ⟨bb, oo, rfl⟩ := plain_cell (acell 0 _ (entsC_at own 0 own[0] (List.getElem?_eq_getElem (by omega))).1)
      have hab' : bb < w6.heap.size := hab
      have hh0 : own[0]? = some own[0] := List.getElem?_eq_getElem (by omega)
      have p2 := acell _ _ (entsC_at own 0 own[0] hh0).2.2.1
      rw [add_off] at p2
      have hhd : own[0].seq = headD own := by
        unfold headD
        cases own with
        | nil => exact absurd rfl hne
        | cons a l => rfl
      rw [hhd] at p2
      replace hhd := Lib.hid hhd
      replace hh0 := Lib.hid hh0
      go_wp2_with fail
      have hxc := @Ext.cell
      refine wp_region_ext (by kernel_rfl) (by kernel_rfl) ?_
      repeat (go_big_quiet_step ((first | fail)))
      refine wpQuiet_nil ?_
      clear hxc
      intro wx hwx
      obtain ⟨x, hx⟩ := hwx
      have hb := x.below
      rw [← hx] at hb
      clear hx x
      have hb0x := hb06.trans (hb.mono hb06.size)
      have hOx := hO6.below hb
      have hTTx := hTT6.below hb
      have hXx := hX6.below hb hX6.lt
      clear hb p2 acell hrd6 hab hab' hO6 hTT6 hX6 hb06
      go_wp2_with fail
      go_loopw [11, 12, 13] (fun lv mv iv wr => ∃ i, i ≤ own.length ∧ iv = .int .i64 (i : Nat) ∧ lv = .int .u64 (leastN own i : Nat) ∧ mv = .int .u64 (mostN own i : Nat) ∧ Below wx.heap.size wx wr) (fun _ _ iv _ => own.length - (intOf iv).toNat)
      case atStart => exact ⟨0, Nat.zero_le _, rfl, rfl, rfl, Below.refl _ _⟩
      case round =>
        obtain ⟨i, hi, rfl, rfl, rfl, hbr⟩ := hrel
        have hzr := hbr.size
        have hb0r := hb0x.trans (hbr.mono hb0x.size)
        have hOr := hOx.below hbr
        have hTTr := hTTx.below hbr
        have hGr := hG.below hb0r hGl
        by_cases hil : i < own.length
        · have hil' : ((i : Nat) : Int) < (own.length : Nat) := by omega
          have hx := List.getElem?_eq_getElem hil
          have hll := leastN_succ hx
          have hmm := mostN_succ hx
          have hown1 := hP.own_ i _ hx
          have hmay1 := hP.may i _ hx
          have hnew1 := hP.new i _ hx
          obtain ⟨sm1, sm2, sm3, sm4⟩ := hsmall _ (List.getElem_mem hil)
          have hrdr : Reads wr wr.heap.size 4 (some ⟨bb, oo, none⟩) own.length (entsC own) := Reads.of_own hOr
          obtain ⟨q0, q1, q2, q3⟩ := entsC_at own i _ hx
          have hprev : ∀ j, j + 1 = i → ∃ y, own[j]? = some y := fun j hj => ⟨own[j], List.getElem?_eq_getElem (by omega)⟩
          obtain ⟨ad, had, hab, acell⟩ := hrdr.2 (by omega)
          injection had with had
          subst had
          have hab' : bb < wr.heap.size := hab
          have acell' := Lib.hid acell
          replace q0 := acell _ _ q0
          replace q1 := acell _ _ q1
          replace q2 := acell _ _ q2
          replace q3 := acell _ _ q3
          rw [add_off] at q0 q1 q2 q3
          rw [← Nat.add_assoc] at q1 q2 q3
          clear acell
          generalize own[i] = eo at *
          have hget1 := fun W (hW : Below wr.heap.size wr W) => Get_any (hTTr.below hW) hP.bl hP.fl (hGr.below hW hGr.lt) (bs eo.key) (by rw [bs_size]; omega) eo.seq (by omega)
          rw [bs_data, hown1] at hget1
          unfold entV at hget1
          simp only [Option.getD, Option.isSome] at hget1
          unfold entC at hget1
          replace hget1 := Lib.hid hget1
          replace hown1 := Lib.hid hown1
          replace hx := Lib.hid hx
          replace hll := Lib.hid hll
          replace hmm := Lib.hid hmm
          replace hmay1 := Lib.hid hmay1
          go_wp2_with fail
          refine wp_region_task3 (AJ wr 15 16 33 #[.string ⟨#[]⟩, .string ⟨#[]⟩, .int .u64 0, .bool false] (entC eo)) (tauL [some (.pointer (some ⟨gt, 0, none⟩)), some (.slice (some ⟨bb, oo, none⟩) own.length co), some (.int .i64 (i : Nat)), some (.pointer (some ⟨bb, oo + i * 4, none⟩)), some (.pointer (some ⟨bb, oo + i * 4, none⟩)), some (.string (bs eo.key)), some (.slice (some ⟨bb, oo, none⟩) own.length co), some (.int .i64 (i : Nat)), some (.pointer (some ⟨bb, oo + i * 4, none⟩)), some (.pointer (some ⟨bb, oo + i * 4 + 2, none⟩)), some (.int .u64 (eo.seq : Nat)), some (.tuple #[.agg #[.string (bs eo.key), .string (bs eo.value), .int .u64 (eo.seq : Nat), .bool eo.gone], .bool true]), some (.tuple #[.agg #[.string (bs eo.key), .string (bs eo.value), .int .u64 (eo.seq : Nat), .bool eo.gone], .bool true]), some (.agg #[.string (bs eo.key), .string (bs eo.value), .int .u64 (eo.seq : Nat), .bool eo.gone]), some (.bool true), none, none, some (.bool true)] tauN) (usL [u78, u79, u80, u81, u82, u83, u84, u85, u86, u87, u88, u89, u77, u90, u91, u14, undef, u15]) ?m1 ?m2 ?m3 ?m4 (AJ.start (by decide)) ?m5 ?m6
          case m1 => kernel_rfl
          case m2 => kernel_rfl
          case m3 => kernel_rfl
          case m4 => kernel_rfl
          case m5 =>
            refine ⟨?o0, ?o1, ?o2, ?o3, ?o4, ?o5, ?o6, ?o7, ?o8, ?o9, ?o10, ?o11, ?o12, ?o13, ?o14, ?o15, ?o16, ?o17, trivial⟩
            case o0 =>
              intro d us wx hd hJ hp hu hi
              refine .inl ⟨by kernel_rfl, fun K Q hK => ?_⟩
              simp only [putAll, Act.put, Nat.reduceAdd] at hK ⊢
              go_simp
              refine Eq.mp ?_ (hK (.pointer (some ⟨gt, 0, none⟩)) _ (hJ.other 0 (by decide) (by decide)) rfl (fun k u _ h => tauL_any k u h))
              kernel_rfl
            case o1 =>
              intro d us wx hd hJ hp hu hi
              refine .inl ⟨by kernel_rfl, fun K Q hK => ?_⟩
              simp only [putAll, Act.put, Nat.reduceAdd] at hK ⊢
              go_simp
              refine Eq.mp ?_ (hK (.slice (some ⟨bb, oo, none⟩) own.length co) _ (hJ.other 1 (by decide) (by decide)) rfl (fun k u _ h => tauL_any k u h))
              kernel_rfl
            case o2 =>
              intro d us wx hd hJ hp hu hi
              refine .inl ⟨by kernel_rfl, fun K Q hK => ?_⟩
              simp only [putAll, Act.put, Nat.reduceAdd] at hK ⊢
              go_simp
              refine Eq.mp ?_ (hK (.int .i64 (i : Nat)) _ (hJ.other 2 (by decide) (by decide)) rfl (fun k u _ h => tauL_any k u h))
              kernel_rfl
            case o3 =>
              intro d us wx hd hJ hp hu hi
              have h1 : us 1 = _ := (hp 1 (by simp [Region.binds])).2
              have h2 : us 2 = _ := (hp 2 (by simp [Region.binds])).2
              refine .inl ⟨by kernel_rfl, fun K Q hK => ?_⟩
              simp only [putAll, Act.put, Nat.reduceAdd, h1, h2] at hK ⊢
              go_simp
              refine Eq.mp ?_ (hK (.pointer (some ⟨bb, oo + i * 4, none⟩)) _ (hJ.other 3 (by decide) (by decide)) rfl (fun k u _ h => tauL_any k u h))
              kernel_rfl
            case o4 =>
              intro d us wx hd hJ hp hu hi
              have h3 : us 3 = _ := (hp 3 (by simp [Region.binds])).2
              refine .inl ⟨by kernel_rfl, fun K Q hK => ?_⟩
              simp only [putAll, Act.put, Nat.reduceAdd, h3] at hK ⊢
              go_simp
              refine Eq.mp ?_ (hK (.pointer (some ⟨bb, oo + i * 4, none⟩)) _ (hJ.other 4 (by decide) (by decide)) rfl (fun k u _ h => tauL_any k u h))
              kernel_rfl
            case o5 =>
              intro d us wx hd hJ hp hu hi
              have h4 : us 4 = _ := (hp 4 (by simp [Region.binds])).2
              have y0 := hJ.cell hab' q0
              refine .inl ⟨by kernel_rfl, fun K Q hK => ?_⟩
              simp only [putAll, Act.put, Nat.reduceAdd, h4] at hK ⊢
              go_simp
              refine Eq.mp ?_ (hK (.string (bs eo.key)) _ (hJ.other 5 (by decide) (by decide)) rfl (fun k u _ h => tauL_any k u h))
              kernel_rfl
            case o6 =>
              intro d us wx hd hJ hp hu hi
              refine .inl ⟨by kernel_rfl, fun K Q hK => ?_⟩
              simp only [putAll, Act.put, Nat.reduceAdd] at hK ⊢
              go_simp
              refine Eq.mp ?_ (hK (.slice (some ⟨bb, oo, none⟩) own.length co) _ (hJ.other 6 (by decide) (by decide)) rfl (fun k u _ h => tauL_any k u h))
              kernel_rfl
            case o7 =>
              intro d us wx hd hJ hp hu hi
              refine .inl ⟨by kernel_rfl, fun K Q hK => ?_⟩
              simp only [putAll, Act.put, Nat.reduceAdd] at hK ⊢
              go_simp
              refine Eq.mp ?_ (hK (.int .i64 (i : Nat)) _ (hJ.other 7 (by decide) (by decide)) rfl (fun k u _ h => tauL_any k u h))
              kernel_rfl
            case o8 =>
              intro d us wx hd hJ hp hu hi
              have h6 : us 6 = _ := (hp 6 (by simp [Region.binds])).2
              have h7 : us 7 = _ := (hp 7 (by simp [Region.binds])).2
              refine .inl ⟨by kernel_rfl, fun K Q hK => ?_⟩
              simp only [putAll, Act.put, Nat.reduceAdd, h6, h7] at hK ⊢
              go_simp
              refine Eq.mp ?_ (hK (.pointer (some ⟨bb, oo + i * 4, none⟩)) _ (hJ.other 8 (by decide) (by decide)) rfl (fun k u _ h => tauL_any k u h))
              kernel_rfl
            case o9 =>
              intro d us wx hd hJ hp hu hi
              have h8 : us 8 = _ := (hp 8 (by simp [Region.binds])).2
              refine .inl ⟨by kernel_rfl, fun K Q hK => ?_⟩
              simp only [putAll, Act.put, Nat.reduceAdd, h8] at hK ⊢
              go_simp
              refine Eq.mp ?_ (hK (.pointer (some ⟨bb, oo + i * 4 + 2, none⟩)) _ (hJ.other 9 (by decide) (by decide)) rfl (fun k u _ h => tauL_any k u h))
              kernel_rfl
            case o10 =>
              intro d us wx hd hJ hp hu hi
              have h9 : us 9 = _ := (hp 9 (by simp [Region.binds])).2
              have y2 := hJ.cell hab' q2
              refine .inl ⟨by kernel_rfl, fun K Q hK => ?_⟩
              simp only [putAll, Act.put, Nat.reduceAdd, h9] at hK ⊢
              go_simp
              refine Eq.mp ?_ (hK (.int .u64 (eo.seq : Nat)) _ (hJ.other 10 (by decide) (by decide)) rfl (fun k u _ h => tauL_any k u h))
              kernel_rfl
            case o11 =>
              intro d us wx hd hJ hp hu hi
              have h0 : us 0 = _ := (hp 0 (by simp [Region.binds])).2
              have h5 : us 5 = _ := (hp 5 (by simp [Region.binds])).2
              have h10 : us 10 = _ := (hp 10 (by simp [Region.binds])).2
              refine .inl ⟨by kernel_rfl, fun K Q hK => ?_⟩
              simp only [putAll, Act.put, Nat.reduceAdd, h0, h5, h10] at hK ⊢
              go_simp
              refine (hget1.out wx hJ.1).mono ?_
              rintro e w' ⟨rfl, hb⟩
              refine Eq.mp ?_ (hK (.tuple #[.agg #[.string (bs eo.key), .string (bs eo.value), .int .u64 (eo.seq : Nat), .bool eo.gone], .bool true]) w' ((hJ.grow hb).other 11 (by decide) (by decide)) rfl (fun k u _ h => tauL_any k u h))
              kernel_rfl
            case o12 =>
              intro d us wx hd hJ hp hu hi
              have h11 : us 11 = _ := (hp 11 (by simp [Region.binds])).2
              refine .inl ⟨by kernel_rfl, fun K Q hK => ?_⟩
              simp only [putAll, Act.put, Nat.reduceAdd, h11] at hK ⊢
              go_simp
              refine Eq.mp ?_ (hK (.tuple #[.agg #[.string (bs eo.key), .string (bs eo.value), .int .u64 (eo.seq : Nat), .bool eo.gone], .bool true]) _ (hJ.other 12 (by decide) (by decide)) rfl (fun k u _ h => tauL_any k u h))
              kernel_rfl
            case o13 =>
              intro d us wx hd hJ hp hu hi
              have h12 : us 12 = _ := (hp 12 (by simp [Region.binds])).2
              refine .inl ⟨by kernel_rfl, fun K Q hK => ?_⟩
              simp only [putAll, Act.put, Nat.reduceAdd, h12] at hK ⊢
              go_simp
              refine Eq.mp ?_ (hK (.agg #[.string (bs eo.key), .string (bs eo.value), .int .u64 (eo.seq : Nat), .bool eo.gone]) _ (hJ.other 13 (by decide) (by decide)) rfl (fun k u _ h => tauL_any k u h))
              kernel_rfl
            case o14 =>
              intro d us wx hd hJ hp hu hi
              have h12 : us 12 = _ := (hp 12 (by simp [Region.binds])).2
              refine .inl ⟨by kernel_rfl, fun K Q hK => ?_⟩
              simp only [putAll, Act.put, Nat.reduceAdd, h12] at hK ⊢
              go_simp
              refine Eq.mp ?_ (hK (.bool true) _ (hJ.other 14 (by decide) (by decide)) rfl (fun k u _ h => tauL_any k u h))
              kernel_rfl
            case o15 =>
              intro d us wx hd hJ hp hu hi
              have hz := (hu 16 (by kernel_rfl)).1
              refine .inl ⟨by kernel_rfl, fun K Q hK => ?_⟩
              simp only [putAll, Act.put, Nat.reduceAdd] at hK ⊢
              go_simp
              refine Eq.mp ?_ (hK (.pointer (some ⟨wx.heap.size, 0, none⟩)) (wx.alloc (.cells #[.string ⟨#[]⟩, .string ⟨#[]⟩, .int .u64 0, .bool false] 33)) (hJ.made (by decide) hz) trivial (fun k u _ h => tauL_any k u h))
              kernel_rfl
            case o16 =>
              intro d us wx hd hJ hp hu hi
              have h13 : us 13 = _ := (hp 13 (by simp [Region.binds])).2
              obtain ⟨b, h15, hbB, hbk⟩ := hJ.at_ (hp 15 (by simp [Region.binds])).1 hd
              have z0 := hbk.cell 0
              have z1 := hbk.cell 1
              have z2 := hbk.cell 2
              have z3 := hbk.cell 3
              have f0 := hbk.frozen 0
              have f1 := hbk.frozen 1
              have f2 := hbk.frozen 2
              have f3 := hbk.frozen 3
              have zl := hbk.lt
              simp only [List.getElem?_toArray, List.getElem?_cons_zero, List.getElem?_cons_succ] at z0 z1 z2 z3
              have hset := ent_set hbk rfl eo
              refine .inl ⟨by kernel_rfl, fun K Q hK => ?_⟩
              simp only [putAll, Act.put, Nat.reduceAdd, h15, h13] at hK ⊢
              go_simp
              refine Eq.mp ?_ (hK (undef) ((((wx.setCell ⟨b, 0, none⟩ (.string (bs eo.key))).setCell ⟨b, 1, none⟩ (.string (bs eo.value))).setCell ⟨b, 2, none⟩ (.int .u64 (eo.seq : Nat))).setCell ⟨b, 3, none⟩ (.bool eo.gone)) (hJ.stored (by decide) h15 hbB ((((hJ.1.setCell (p := ⟨b, 0, none⟩) hbB _).setCell (p := ⟨b, 1, none⟩) hbB _).setCell (p := ⟨b, 2, none⟩) hbB _).setCell (p := ⟨b, 3, none⟩) hbB _) hset) trivial (fun k u _ h => tauL_any k u h))
              kernel_rfl
            case o17 =>
              intro d us wx hd hJ hp hu hi
              have h14 : us 14 = _ := (hp 14 (by simp [Region.binds])).2
              refine .inl ⟨by kernel_rfl, fun K Q hK => ?_⟩
              simp only [putAll, Act.put, Nat.reduceAdd, h14] at hK ⊢
              go_simp
              refine Eq.mp ?_ (hK (.bool true) _ (hJ.other 17 (by decide) (by decide)) rfl (fun k u _ h => tauL_any k u h))
              kernel_rfl
          intro d us wx hJ hall
          obtain ⟨hbA, be, h15, hbB, hbk⟩ := hJ.end_ (hall 15 (by simp)).1 (hall 16 (by simp)).1
          have h17 : us 17 = .bool true := (hall 17 (by simp)).2
          simp only [putAll, Act.put, Nat.reduceAdd, h15, h17]
          have hbr1 := hbr.trans (hbA.mono hzr)
          have hb01 := hb0r.trans (hbA.mono hb0r.size)
          have hTT1 := hTTr.below hbA
          have hbel := hbk.lt
          have z0 := hbk.cell 0
          have z1 := hbk.cell 1
          have z2 := hbk.cell 2
          have z3 := hbk.cell 3
          simp only [entC, List.getElem?_toArray, List.getElem?_cons_zero, List.getElem?_cons_succ] at z0 z1 z2 z3
          have hab1 : bb < wx.heap.size := Nat.lt_of_lt_of_le hab' hbA.size
          have r0 := (hbA.cell (p := ⟨bb, oo + i * 4, none⟩) hab').trans q0
          have r1 := (hbA.cell (p := ⟨bb, oo + i * 4 + 1, none⟩) hab').trans q1
          have r2 := (hbA.cell (p := ⟨bb, oo + i * 4 + 2, none⟩) hab').trans q2
          have r3 := (hbA.cell (p := ⟨bb, oo + i * 4 + 3, none⟩) hab').trans q3
          have hmy := fun W (hW : Below wx.heap.size wx W) => tMay_any (hTT1.below hW) hP.fl (bs eo.key) (by rw [bs_size]; omega)
          rw [bs_data, hmay1.out] at hmy
          replace hmy := Lib.hid hmy
          clear hall hget1
          go_wp2_with fail
          go_simp
          have hxc := @Ext.cell
          refine wp_region_ext (by kernel_rfl) (by kernel_rfl) ?_
          repeat (go_big_quiet_step ((first | (go_at_call 13; exact Calls.ext (hmy.out _ (Ext.below _))))))
          refine wpQuiet_nil ?_
          clear hxc
          intro wx hwx
          obtain ⟨x, hx⟩ := hwx
          have hb := x.below
          rw [← hx] at hb
          clear hx x
          have hbA7 := hbA.trans (hb.mono hbA.size)
          have hb07 := hb01.trans (hb.mono hb01.size)
          have hTT7 := hTT1.below hb
          clear hb hmy r0 r1 r2 r3 z0 z1 z2 z3 hbk
          have hget2 := Get_any hTT7 hP.bl hP.fl (hG.below hb07 hGl) (bs eo.key) (by rw [bs_size]; omega) at_ hat
          rw [bs_data] at hget2
          have hnw := hnew1
          have hisp := hP.is_ eo.key
          generalize getP f ix bls eo.key at_ = og at *
          unfold entV at hget2
          obtain ⟨b0, hb0⟩ : ∃ b0, b0 = og.getD ent0 := ⟨_, rfl⟩
          obtain ⟨isb, hisb⟩ : ∃ isb, isb = og.isSome := ⟨_, rfl⟩
          rw [← hb0, ← hisb] at hget2
          unfold entC at hget2
          replace hget2 := Lib.hid hget2
          replace hb0 := Lib.hid hb0
          replace hisb := Lib.hid hisb
          have hab7 : bb < wx.heap.size := Nat.lt_of_lt_of_le hab' hbA7.size
          have r0 := (hbA7.cell (p := ⟨bb, oo + i * 4, none⟩) hab').trans q0
          have hnew2 := Lib.hid hnw
          clear hnw hnew1
          go_wp2_with fail
          refine hget2.out.mono ?_
          rintro e w8 ⟨rfl, hb8⟩
          have hbA8 := hbA7.trans (hb8.mono hbA7.size)
          have hb08 := hb07.trans (hb8.mono hb07.size)
          have hTT8 := hTT7.below hb8
          have hE9 := Blk.new w8 33 #[.string (bs b0.key), .string (bs b0.value), .int .u64 (b0.seq : Nat), .bool b0.gone]
          have hb9 : Below w8.heap.size w8 (w8.alloc (.cells #[.string (bs b0.key), .string (bs b0.value), .int .u64 (b0.seq : Nat), .bool b0.gone] 33)) := (Below.refl _ _).alloc (Nat.le_refl _) _
          have hl9 : w8.heap.size < (w8.alloc (.cells #[.string (bs b0.key), .string (bs b0.value), .int .u64 (b0.seq : Nat), .bool b0.gone] 33)).heap.size := by rw [World.size_alloc]; omega
          clear r0 hb8 hTT7 hget2
          go_wp2_with fail
          generalize hq9 : w8.alloc (.cells #[.string (bs b0.key), .string (bs b0.value), .int .u64 (b0.seq : Nat), .bool b0.gone] 33) = w9 at *
          replace hq9 := Lib.hid hq9
          have hbA9 := hbA8.trans (hb9.mono hbA8.size)
          have hb09 := hb08.trans (hb9.mono hb08.size)
          have hTT9 := hTT8.below hb9
          clear hb9 hTT8 hbA8 hb08
          have hab9 : bb < w9.heap.size := Nat.lt_of_lt_of_le hab' hbA9.size
          have r0 := (hbA9.cell (p := ⟨bb, oo + i * 4, none⟩) hab').trans q0
          have r1 := (hbA9.cell (p := ⟨bb, oo + i * 4 + 1, none⟩) hab').trans q1
          have r2 := (hbA9.cell (p := ⟨bb, oo + i * 4 + 2, none⟩) hab').trans q2
          have r3 := (hbA9.cell (p := ⟨bb, oo + i * 4 + 3, none⟩) hab').trans q3
          go_cut [18] (fun fv wz => ∃ nb, fv = .bool nb ∧ (nb = true ↔ NewP own i eo at_) ∧ Below w9.heap.size w9 wz)
          case first =>
            by_cases hi0 : i = 0
            · have hi0' : ((i : Nat) : Int) = 0 := by omega
              have hi0b : (((i : Nat) : Int) == 0) = true := by simpa using hi0'
              have hNP : NewP own i eo at_ := fun j x hj _ => by omega
              replace hi0 := Lib.hid hi0
              replace hNP := Lib.hid hNP
              have hxc := @Ext.cell
              refine wp_region_ext (by kernel_rfl) (by kernel_rfl) ?_
              repeat (go_big_quiet_step ((first | fail)))
              refine wpQuiet_nil ?_
              clear hxc
              intro wx hwx
              obtain ⟨x, hx⟩ := hwx
              have hb := x.below
              rw [← hx] at hb
              clear hx x
              go_wp2_with fail
              go_meet
              case rel => exact ⟨true, rfl, ⟨fun _ => hNP.out, fun _ => rfl⟩, hb⟩
            · obtain ⟨j, hj⟩ : ∃ j, j + 1 = i := ⟨i - 1, by omega⟩
              obtain ⟨y, hy⟩ := hprev j hj
              obtain ⟨t0, _, t2, _⟩ := entsC_at own j y hy
              replace t0 := acell'.out _ _ t0
              replace t2 := acell'.out _ _ t2
              rw [add_off] at t0 t2
              rw [← Nat.add_assoc] at t2
              have v0 := (hbA9.cell (p := ⟨bb, oo + j * 4, none⟩) hab').trans t0
              have v2 := (hbA9.cell (p := ⟨bb, oo + j * 4 + 2, none⟩) hab').trans t2
              have hi0' : ¬ ((i : Nat) : Int) = 0 := by omega
              have hi0b : (((i : Nat) : Int) == 0) = false := by simpa using hi0'
              have hij : ((i : Nat) : Int) - 1 = ((j : Nat) : Int) := by omega
              have hjl : ((j : Nat) : Int) < (own.length : Nat) := by omega
              have hNPi : NewP own i eo at_ ↔ (y.key ≠ eo.key ∨ at_ < y.seq) := by
                constructor
                · exact fun h => h j y hj hy
                · intro h j' x' hj' hx'
                  obtain rfl : j' = j := by omega
                  rw [hy] at hx'
                  injection hx' with hx'
                  rw [← hx']
                  exact h
              replace hy := Lib.hid hy
              replace hj := Lib.hid hj
              replace hi0 := Lib.hid hi0
              clear t0 t2
              by_cases hkk : y.key = eo.key
              · have hkb : ((bs y.key).toList == (bs eo.key).toList) = true := by rw [hkk]; simp
                have hkn : ((bs y.key).toList != (bs eo.key).toList) = false := by rw [hkk]; simp
                by_cases hlt : at_ < y.seq
                · have hlti : ((at_ : Nat) : Int) < ((y.seq : Nat) : Int) := by omega
                  have hltb : decide (((at_ : Nat) : Int) < ((y.seq : Nat) : Int)) = true := by simpa using hlti
                  have hNP := hNPi.2 (.inr hlt)
                  replace hNPi := Lib.hid hNPi
                  replace hNP := Lib.hid hNP
                  replace hkk := Lib.hid hkk
                  have hxc := @Ext.cell
                  refine wp_region_ext (by kernel_rfl) (by kernel_rfl) ?_
                  repeat (go_big_quiet_step ((first | fail)))
                  refine wpQuiet_nil ?_
                  clear hxc
                  intro wx hwx
                  obtain ⟨x, hx⟩ := hwx
                  have hb := x.below
                  rw [← hx] at hb
                  clear hx x
                  go_wp2_with fail
                  go_meet
                  case rel => exact ⟨true, rfl, ⟨fun _ => hNP.out, fun _ => rfl⟩, hb⟩
                · have hlti : ¬ ((at_ : Nat) : Int) < ((y.seq : Nat) : Int) := by omega
                  have hltb : decide (((at_ : Nat) : Int) < ((y.seq : Nat) : Int)) = false := by simpa using hlti
                  have hNP : ¬ NewP own i eo at_ := fun h => by
                    rcases hNPi.1 h with h1 | h1
                    · exact h1 hkk
                    · exact hlt h1
                  replace hNPi := Lib.hid hNPi
                  replace hNP := Lib.hid hNP
                  replace hkk := Lib.hid hkk
                  have hxc := @Ext.cell
                  refine wp_region_ext (by kernel_rfl) (by kernel_rfl) ?_
                  repeat (go_big_quiet_step ((first | fail)))
                  refine wpQuiet_nil ?_
                  clear hxc
                  intro wx hwx
                  obtain ⟨x, hx⟩ := hwx
                  have hb := x.below
                  rw [← hx] at hb
                  clear hx x
                  go_wp2_with fail
                  go_meet
                  case rel => exact ⟨false, rfl, ⟨fun h => (by cases h), fun h => absurd h hNP.out⟩, hb⟩
              · have hkb : ((bs y.key).toList == (bs eo.key).toList) = false := by rw [bs_toList, bs_toList]; simpa using hkk
                have hkn : ((bs y.key).toList != (bs eo.key).toList) = true := by rw [bs_toList, bs_toList]; simpa using hkk
                have hNP := hNPi.2 (.inl hkk)
                replace hNPi := Lib.hid hNPi
                replace hNP := Lib.hid hNP
                replace hkk := Lib.hid hkk
                have hxc := @Ext.cell
                refine wp_region_ext (by kernel_rfl) (by kernel_rfl) ?_
                repeat (go_big_quiet_step ((first | fail)))
                refine wpQuiet_nil ?_
                clear hxc
                intro wx hwx
                obtain ⟨x, hx⟩ := hwx
                have hb := x.below
                rw [← hx] at hb
                clear hx x
                go_wp2_with fail
                go_meet
                case rel => exact ⟨true, rfl, ⟨fun _ => hNP.out, fun _ => rfl⟩, hb⟩
          case rest =>
            obtain ⟨nb, rfl, hnb, hbz⟩ := hcut
            have hbAc := hbA9.trans (hbz.mono hbA9.size)
            have hb0c := hb09.trans (hbz.mono hb09.size)
            have hEc := hE9.below hbz hl9
            have hlc := hEc.lt
            have habc : bb < wc.heap.size := Nat.lt_of_lt_of_le hab' hbAc.size
            have z0 := hEc.cell 0
            have z1 := hEc.cell 1
            have z2 := hEc.cell 2
            have z3 := hEc.cell 3
            simp only [List.getElem?_toArray, List.getElem?_cons_zero, List.getElem?_cons_succ] at z0 z1 z2 z3
            clear r0 r1 r2 r3 hTT9 hb09 hbz hE9 hl9
            have r0 := (hbAc.cell (p := ⟨bb, oo + i * 4, none⟩) hab').trans q0
            have r1 := (hbAc.cell (p := ⟨bb, oo + i * 4 + 1, none⟩) hab').trans q1
            have r2 := (hbAc.cell (p := ⟨bb, oo + i * 4 + 2, none⟩) hab').trans q2
            have r3 := (hbAc.cell (p := ⟨bb, oo + i * 4 + 3, none⟩) hab').trans q3
            go_upto_region 18 with fail
            go_cut [189] (fun fv wz => fv = .bool false ∧ Below wc.heap.size wc wz)
            case first =>
              by_cases hle : eo.seq ≤ at_
              · have hlei : ((eo.seq : Nat) : Int) ≤ ((at_ : Nat) : Int) := by omega
                have hleb : decide (((eo.seq : Nat) : Int) ≤ ((at_ : Nat) : Int)) = true := by simpa using hlei
                cases nb
                · clear hnew2
                  replace hle := Lib.hid hle
                  replace hnb := Lib.hid hnb
                  cases og with
                  | none =>
                    have e1 : b0 = ent0 := hb0.out
                    have e2 : isb = false := hisb.out
                    subst e1 e2
                    clear hisp
                    have hxc := @Ext.cell
                    refine wp_region_ext (by kernel_rfl) (by kernel_rfl) ?_
                    repeat (go_big_quiet_step ((first | fail)))
                    refine wpQuiet_nil ?_
                    clear hxc
                    intro wx hwx
                    obtain ⟨x, hx⟩ := hwx
                    have hb := x.below
                    rw [← hx] at hb
                    clear hx x
                    go_wp2_with fail
                    go_meet
                    case rel => exact ⟨rfl, hb⟩
                  | some b1 =>
                    have e1 : b0 = b1 := hb0.out
                    have e2 : isb = true := hisb.out
                    obtain ⟨k1, k2⟩ := hisp b1 rfl
                    subst e1 e2
                    rw [k1] at z0
                    have hlt : ¬ ((at_ : Nat) : Int) < ((b0.seq : Nat) : Int) := by omega
                    have hltb : decide (((at_ : Nat) : Int) < ((b0.seq : Nat) : Int)) = false := by simpa using hlt
                    replace k1 := Lib.hid k1
                    replace k2 := Lib.hid k2
                    clear hisp
                    have hxc := @Ext.cell
                    refine wp_region_ext (by kernel_rfl) (by kernel_rfl) ?_
                    repeat (go_big_quiet_step ((first | fail)))
                    refine wpQuiet_nil ?_
                    clear hxc
                    intro wx hwx
                    obtain ⟨x, hx⟩ := hwx
                    have hb := x.below
                    rw [← hx] at hb
                    clear hx x
                    go_wp2_with fail
                    go_meet
                    case rel => exact ⟨rfl, hb⟩
                · have hog := hnew2.out hle (hnb.1 rfl)
                  have e1 : b0 = eo := by rw [hb0.out, hog]; rfl
                  have e2 : isb = true := by rw [hisb.out, hog]; rfl
                  subst e1 e2
                  have hlt : ¬ ((at_ : Nat) : Int) < ((b0.seq : Nat) : Int) := by omega
                  have hltb : decide (((at_ : Nat) : Int) < ((b0.seq : Nat) : Int)) = false := by simpa using hlt
                  clear hnew2 hisp
                  replace hog := Lib.hid hog
                  replace hle := Lib.hid hle
                  replace hnb := Lib.hid hnb
                  have hxc := @Ext.cell
                  refine wp_region_ext (by kernel_rfl) (by kernel_rfl) ?_
                  repeat (go_big_quiet_step ((first | fail)))
                  refine wpQuiet_nil ?_
                  clear hxc
                  intro wx hwx
                  obtain ⟨x, hx⟩ := hwx
                  have hb := x.below
                  rw [← hx] at hb
                  clear hx x
                  go_wp2_with fail
                  go_meet
                  case rel => exact ⟨rfl, hb⟩
              · have hlei : ¬ ((eo.seq : Nat) : Int) ≤ ((at_ : Nat) : Int) := by omega
                have hleb : decide (((eo.seq : Nat) : Int) ≤ ((at_ : Nat) : Int)) = false := by simpa using hlei
                clear hnew2
                replace hle := Lib.hid hle
                replace hnb := Lib.hid hnb
                cases og with
                | none =>
                  have e1 : b0 = ent0 := hb0.out
                  have e2 : isb = false := hisb.out
                  subst e1 e2
                  clear hisp
                  have hxc := @Ext.cell
                  refine wp_region_ext (by kernel_rfl) (by kernel_rfl) ?_
                  repeat (go_big_quiet_step ((first | fail)))
                  refine wpQuiet_nil ?_
                  clear hxc
                  intro wx hwx
                  obtain ⟨x, hx⟩ := hwx
                  have hb := x.below
                  rw [← hx] at hb
                  clear hx x
                  go_wp2_with fail
                  go_meet
                  case rel => exact ⟨rfl, hb⟩
                | some b1 =>
                  have e1 : b0 = b1 := hb0.out
                  have e2 : isb = true := hisb.out
                  obtain ⟨k1, k2⟩ := hisp b1 rfl
                  subst e1 e2
                  rw [k1] at z0
                  have hlt : ¬ ((at_ : Nat) : Int) < ((b0.seq : Nat) : Int) := by omega
                  have hltb : decide (((at_ : Nat) : Int) < ((b0.seq : Nat) : Int)) = false := by simpa using hlt
                  replace k1 := Lib.hid k1
                  replace k2 := Lib.hid k2
                  clear hisp
                  have hxc := @Ext.cell
                  refine wp_region_ext (by kernel_rfl) (by kernel_rfl) ?_
                  repeat (go_big_quiet_step ((first | fail)))
                  refine wpQuiet_nil ?_
                  clear hxc
                  intro wx hwx
                  obtain ⟨x, hx⟩ := hwx
                  have hb := x.below
                  rw [← hx] at hb
                  clear hx x
                  go_wp2_with fail
                  go_meet
                  case rel => exact ⟨rfl, hb⟩
            case rest =>
              obtain ⟨rfl, hbz⟩ := hcut
              have hbAd := hbAc.trans (hbz.mono hbAc.size)
              have habd : bb < wc.heap.size := Nat.lt_of_lt_of_le hab' hbAd.size
              have y2 := (hbAd.cell (p := ⟨bb, oo + i * 4 + 2, none⟩) hab').trans q2
              clear r0 r1 r2 r3 z0 z1 z2 z3 q0 q1 q2 q3
              have hmin : min ((leastN own i : Nat) : Int) ((eo.seq : Nat) : Int) = ((min (leastN own i) eo.seq : Nat) : Int) := by omega
              have hmax : max ((mostN own i : Nat) : Int) ((eo.seq : Nat) : Int) = ((max (mostN own i) eo.seq : Nat) : Int) := by omega
              go_wp2_with fail
              have hxc := @Ext.cell
              refine wp_region_ext (by kernel_rfl) (by kernel_rfl) ?_
              repeat (go_big_quiet_step ((first | fail)))
              refine wpQuiet_nil ?_
              clear hxc
              intro wx hwx
              obtain ⟨x, hx⟩ := hwx
              have hb := x.below
              rw [← hx] at hb
              clear hx x
              go_wp2_with fail
              refine ⟨⟨i + 1, by omega, by go_num, ?_, ?_, (hbr.trans (hbAd.mono hzr)).trans (hb.mono (by have := hbAd.size; omega))⟩, by first | omega | (simp only [intOf]; omega)⟩
              · rw [hll.out]
              · rw [hmm.out]
        · obtain rfl : i = own.length := by omega
          have hil' : ¬ ((own.length : Nat) : Int) < (own.length : Nat) := by omega
          have hXr := hXx.below hbr hXx.lt
          have hrdr : Reads wr wr.heap.size 4 (some ⟨bb, oo, none⟩) own.length (entsC own) := Reads.of_own hOr
          obtain ⟨ad, had, hab, acell⟩ := hrdr.2 (by omega)
          injection had with had
          subst had
          have hab' : bb < wr.heap.size := hab
          have hh1 : own[own.length - 1]? = some own[own.length - 1] := List.getElem?_eq_getElem (by omega)
          have f0 := acell _ _ (entsC_at own 0 _ hh0.out).1
          have f1 := acell _ _ (entsC_at own (own.length - 1) _ hh1).1
          rw [add_off] at f0 f1
          rw [Nat.zero_mul, Nat.add_zero] at f0
          have hl1 : ((own.length : Nat) : Int) - 1 = ((own.length - 1 : Nat) : Int) := by omega
          have hl1i : ((own.length - 1 : Nat) : Int) < (own.length : Nat) := by omega
          have e0 : (own.head?.map (·.key)).getD [] = own[0].key := by rw [List.head?_eq_getElem?, hh0.out]; rfl
          have e1 : (own.getLast?.map (·.key)).getD [] = own[own.length - 1].key := by rw [List.getLast?_eq_getElem?, hh1]; rfl
          have hL : leastN own own.length = own.foldl (fun a e => min a e.seq) (headD own) := by unfold leastN; rw [List.take_length]
          have hM : mostN own own.length = own.foldl (fun a e => max a e.seq) (headD own) := by unfold mostN; rw [List.take_length]
          have hxv : x = ⟨3, 1, own.length, S.length, own[0].key, own[own.length - 1].key, leastN own own.length, mostN own own.length⟩ := by rw [hxT.out, e0, e1, hL, hM]
          subst hxv
          replace e0 := Lib.hid e0
          replace e1 := Lib.hid e1
          replace hL := Lib.hid hL
          replace hM := Lib.hid hM
          clear hh1 acell hrdr
          generalize own[0].key = k0 at *
          generalize own[own.length - 1].key = k1 at *
          generalize own.length - 1 = nl at *
          generalize leastN own own.length = ln at *
          generalize mostN own own.length = mn at *
          have z0 := hXr.cell 0
          have z1 := hXr.cell 1
          have z2 := hXr.cell 2
          have z3 := hXr.cell 3
          have z4 := hXr.cell 4
          have z5 := hXr.cell 5
          have z6 := hXr.cell 6
          have z7 := hXr.cell 7
          have hlX := hXr.lt
          simp only [List.getElem?_toArray, List.getElem?_cons_zero, List.getElem?_cons_succ] at z0 z1 z2 z3 z4 z5 z6 z7
          have hSs : ((bs S).size : Int) = ((S.length : Nat) : Int) := by rw [bs_size]
          have haw := Lib.hid fun W (hW : Below wr.heap.size wr W) => hawk.out W (hGr.below hW hGr.lt)
          go_wp2_with fail
          have hxc := @Ext.cell
          refine wp_region_ext (by kernel_rfl) (by kernel_rfl) ?_
          repeat (go_big_quiet_step ((first | (go_at_call 17; exact Calls.ext (haw.out _ (Ext.below _))))))
          refine wpQuiet_nil ?_
          clear hxc
          intro wx hwx
          obtain ⟨x, hx⟩ := hwx
          have hb := x.below
          rw [← hx] at hb
          clear hx x
          go_wp2_with fail
          go_ret
          exact ⟨rfl, hb0r.trans (hb.mono hb0r.size)⟩
  · rw [hgp] at hgr
    replace hgr := Lib.hid hgr
    go_enter Tryd.func5, Tryd.ntmps5
    go_wp2_with fail
    refine hgr.out.mono ?_
    rintro e w1 ⟨rfl, hb1⟩
    go_wp2_with fail
    refine (hawk.out w1 (hG.below hb1 hGl)).mono ?_
    rintro e w2 ⟨rfl, hb2⟩
    go_wp2_with fail
    go_ret
    exact ⟨rfl, hb1.trans (hb2.mono hb1.size)⟩
end Go.Proofs.YtfnlponoakhegaaDoor
