/- The document's block: copyholdref11.Bytes. -/
import Derived.Test.YtfnlponoakhegaaDoorB22
import Derived.Test.YtfnlponoakhegaaDoorTAwWJ
import Derived.Deep.DeepCutAuto
namespace Go.Proofs.YtfnlponoakhegaaDoor
open Go.RowKit
set_option linter.unusedVariables false
set_option linter.unusedSimpArgs false
def rowsC (l : List (L × L)) : List Value := (l.map fun r => (rowC r).toList).flatten
theorem rowsC_app (a b : List (L × L)) : rowsC (a ++ b) = rowsC a ++ rowsC b := by simp [rowsC]
theorem rowsC_one (r : L × L) : rowsC [r] = [.string (bs r.1), .string (bs r.2)] := rfl
theorem rowsC_len : ∀ l : List (L × L), (rowsC l).length = 2 * l.length
  | [] => rfl
  | e :: l => by
    have h : rowsC (e :: l) = rowsC [e] ++ rowsC l := rowsC_app [e] l
    rw [h, List.length_append, rowsC_len l, rowsC_one]
    simp only [List.length_cons, List.length_nil]
    omega
theorem rowsC_at : ∀ (l : List (L × L)) (i : Nat) (r : L × L), l[i]? = some r → (rowsC l)[i * 2]? = some (.string (bs r.1)) ∧ (rowsC l)[i * 2 + 1]? = some (.string (bs r.2))
  | [], i, e, h => by simp at h
  | x :: l, 0, e, h => by simp at h; subst h; exact ⟨rfl, rfl⟩
  | x :: l, i + 1, e, h => by
    have ih := rowsC_at l i e (by simpa using h)
    have e1 : rowsC (x :: l) = .string (bs x.1) :: .string (bs x.2) :: rowsC l := rfl
    rw [e1, show (i + 1) * 2 = i * 2 + 1 + 1 from by omega]
    simpa using ih
def rfS (a b : ByteArray) (v : Value) (w : World) : Prop := ∃ g, v = .slice (some ⟨g, 0, none⟩) 2 2 ∧ g < w.heap.size ∧ w.cell? ⟨g, 0, none⟩ = some (.string a) ∧ w.cell? ⟨g, 1, none⟩ = some (.string b)
def rfT (a b : ByteArray) (k : Nat) (v : Value) (w : World) : Prop := match k with
  | 13 => rfS a b v w
  | _ => True
theorem rfT.mono {a b : ByteArray} {vs : List (Option Value)} {w w' : World} (hb : Below w.heap.size w w') (k : Nat) (u : Value) (h : tauL vs (rfT a b) k u w) : tauL vs (rfT a b) k u w' := by
  refine tauL_mono (fun k u h => ?_) k u h
  unfold rfT at h ⊢
  split at h
  · obtain ⟨g, e, hl, h0, h1⟩ := h
    exact ⟨g, e, by have := hb.size; omega, (hb.cell (p := ⟨g, 0, none⟩) hl).trans h0, (hb.cell (p := ⟨g, 1, none⟩) hl).trans h1⟩
  · trivial
theorem foldB_blen (es : List (L × L)) (h : ∀ r ∈ es, r.1.length ≤ 1048576 ∧ r.2.length ≤ 1048576) : (foldB es).b.length ≤ 2097200 * es.length := by
  induction es using snocRec with
  | nil => simp [foldB, BB.new]
  | snoc es e ih =>
    have h1 := ih (fun r hr => h r (List.mem_append_left _ hr))
    have h2 := h e (by simp)
    have h3 := BB.enc_len (foldB es) e.1 e.2
    rw [foldB_snoc]
    unfold BB.put
    simp only [List.length_append, List.length_singleton]
    omega
set_option maxRecDepth 100000 in
set_option maxHeartbeats 4000000 in
theorem RBytes_any (A : Option Addr) (rows : List (L × L)) (cap : Nat) (w : World) (hr : Reads w w.heap.size 2 A rows.length (rowsC rows)) (hl : rows.length ≤ 1000000) (hn : ∀ r ∈ rows, r.1.length ≤ 1048576 ∧ r.2.length ≤ 1048576) :
    Calls Tryd.prog 71 #[.slice A rows.length cap] w fun e w' => e = .returned (.string (bs (outB rows))) ∧ Below w.heap.size w w' := by
  go_enter Tryd.func71, Tryd.ntmps71
  go_wp2_with fail
  go_loopw [3, 4, 5] (fun sv tv iv wr => ∃ i, i ≤ rows.length ∧ iv = .int .i64 (i : Nat) ∧ sv = .string (bs (foldB (rows.take i)).b) ∧ tv = .string (bs (fours (foldB (rows.take i)).starts)) ∧ Below w.heap.size w wr) (fun _ _ iv _ => rows.length - (intOf iv).toNat)
  case atStart => exact ⟨0, Nat.zero_le _, rfl, rfl, rfl, Below.refl _ _⟩
  case round =>
    obtain ⟨i, hi, rfl, rfl, rfl, hbr⟩ := hrel
    have hzr := hbr.size
    by_cases hil : i < rows.length
    · have hil' : ((i : Nat) : Int) < (rows.length : Nat) := by omega
      have hx := List.getElem?_eq_getElem hil
      have hput := foldB_take_succ hx
      have hct := foldB_count (rows.take i)
      have hst := foldB_starts (rows.take i)
      have hbl := foldB_blen (rows.take i) (fun r hr => hn r (List.mem_of_mem_take hr))
      have hle := foldB_starts_le (rows.take i)
      rw [List.length_take, Nat.min_eq_left hi] at hct hst hbl
      obtain ⟨n1, n2⟩ := hn _ (List.getElem_mem hil)
      obtain ⟨ad, rfl, hab, acell⟩ := (hr.below hbr).2 (by omega)
      obtain ⟨bb, oo, rfl⟩ := plain_cell (acell 0 _ (rowsC_at rows 0 rows[0] (List.getElem?_eq_getElem (by omega))).1)
      obtain ⟨q0, q1⟩ := rowsC_at rows i _ hx
      replace q0 := acell _ _ q0
      replace q1 := acell _ _ q1
      rw [add_off] at q0 q1
      rw [← Nat.add_assoc] at q1
      have hab' : bb < wr.heap.size := Nat.lt_of_lt_of_le hab hzr
      have hlast : ∀ j, j + 1 = i → ∃ y, rows[j]? = some y ∧ (foldB (rows.take i)).last = y.1 ∧ wr.cell? ⟨bb, oo + j * 2, none⟩ = some (.string (bs y.1)) ∧ y.1.length ≤ 1048576 := by
        intro j hj
        have hy := List.getElem?_eq_getElem (show j < rows.length by omega)
        refine ⟨_, hy, ?_, ?_, (hn _ (List.getElem_mem (by omega))).1⟩
        · have t := foldB_last hy
          rw [hj] at t
          exact t
        · have t := acell _ _ (rowsC_at rows j _ hy).1
          rwa [add_off] at t
      clear acell
      replace hx := Lib.hid hx
      generalize rows[i] = row at *
      obtain ⟨rk, rv⟩ := row
      simp only at hput q0 q1 n1 n2
      generalize foldB (rows.take i) = B at *
      have hks : (bs rk).size = rk.length := bs_size _
      replace hput := Lib.hid hput
      go_upto_if 22 with fail
      have hm4 : ((i : Nat) : Int) % 4 = ((i % 4 : Nat) : Int) := by omega
      go_cut [4, 7] (fun tv nv wz => tv = .string (bs (fours (B.put rk rv).starts)) ∧ nv = .int .i64 (B.lead rk : Nat) ∧ Below wr.heap.size wr wz)
      case first =>
        by_cases h4 : i % 4 = 0
        · have h4i : ((i % 4 : Nat) : Int) = 0 := by omega
          have h4b : (((i % 4 : Nat) : Int) == 0) = true := by rw [h4]; rfl
          have hlead : B.lead rk = 0 := by unfold BB.lead; rw [hct, if_pos h4]
          have hstp : (B.put rk rv).starts = B.starts ++ [B.b.length] := by unfold BB.put; rw [hct, if_pos h4]
          have hfs : fours (B.put rk rv).starts = fours B.starts ++ bigL B.b.length 4 := by rw [hstp]; simp [fours]
          have hfl := fours_len B.starts
          have hfo := Lib.hid (R11four_any B.b.length wr (by omega))
          have hbz : (bs B.b).size = B.b.length := bs_size _
          have hs1 : ¬ 9223372036854775807 < (bs (fours B.starts)).size + (bs (bigL B.b.length 4)).size := by rw [bs_size, bs_size, bigL_len]; omega
          replace hlead := Lib.hid hlead
          replace hfs := Lib.hid hfs
          replace hstp := Lib.hid hstp
          go_wp2_with fail
          refine hfo.out.mono ?_
          rintro e w1 ⟨rfl, hb1⟩
          go_wp2_with fail
          go_meet
          case rel => exact ⟨by rw [hfs.out, bs_append], by rw [hlead.out]; rfl, hb1⟩
        · have h4i : ¬ ((i % 4 : Nat) : Int) = 0 := by omega
          have h4b : (((i % 4 : Nat) : Int) == 0) = false := by simpa using h4i
          obtain ⟨j, hj⟩ : ∃ j, j + 1 = i := ⟨i - 1, by omega⟩
          obtain ⟨y, hy, hyl, hyc, hyn⟩ := hlast j hj
          have hlead : B.lead rk = sharedL y.1 rk := by unfold BB.lead; rw [hct, if_neg h4, hyl]
          have hstp : (B.put rk rv).starts = B.starts := by unfold BB.put; rw [hct, if_neg h4]
          have hij : ((i : Nat) : Int) - 1 = ((j : Nat) : Int) := by omega
          have hjl : ((j : Nat) : Int) < (rows.length : Nat) := by omega
          generalize y.1 = yk at *
          have hys : (bs yk).size = yk.length := bs_size _
          replace hlead := Lib.hid hlead
          replace hstp := Lib.hid hstp
          replace hy := Lib.hid hy
          replace hj := Lib.hid hj
          replace hyl := Lib.hid hyl
          clear hlast
          go_wp2_with fail
          go_loopw [7] (fun nv wq => ∃ k, k ≤ yk.length ∧ k ≤ rk.length ∧ nv = .int .i64 (k : Nat) ∧ sharedL yk rk = k + sharedL (yk.drop k) (rk.drop k) ∧ Below wr.heap.size wr wq) (fun nv _ => yk.length - (intOf nv).toNat)
          case atStart => exact ⟨0, Nat.zero_le _, Nat.zero_le _, rfl, by simp, Below.refl _ _⟩
          case round =>
            obtain ⟨k, hka, hkb, rfl, hs, hbq⟩ := hrel
            have hzq := hbq.size
            by_cases h1 : k < yk.length
            · have h1' : ((k : Nat) : Int) < (yk.length : Nat) := by omega
              by_cases h2 : k < rk.length
              · have h2' : ((k : Nat) : Int) < (rk.length : Nat) := by omega
                have ga : ((bs yk)[k]'(by rw [hys]; exact h1)) = yk[k] := by simp [bs, ByteArray.getElem_eq_getElem_data]
                have gb : ((bs rk)[k]'(by rw [hks]; exact h2)) = rk[k] := by simp [bs, ByteArray.getElem_eq_getElem_data]
                have hsk : sharedL (yk.drop k) (rk.drop k) = if yk[k] = rk[k] then sharedL (yk.drop (k + 1)) (rk.drop (k + 1)) + 1 else 0 := by
                  rw [List.drop_eq_getElem_cons h1, List.drop_eq_getElem_cons h2]
                  rfl
                replace hsk := Lib.hid hsk
                replace hs := Lib.hid hs
                have hcc := u8_beq yk[k] rk[k]
                by_cases he : yk[k] = rk[k]
                · generalize hca : yk[k] = ca at *
                  generalize hcb : rk[k] = cb at *
                  replace hca := Lib.hid hca
                  replace hcb := Lib.hid hcb
                  subst he
                  go_wp2_with fail
                  have hxc := @Ext.cell
                  refine wp_region_ext (by kernel_rfl) (by kernel_rfl) ?_
                  repeat (go_big_quiet_step ((first | fail)))
                  refine wpQuiet_nil ?_
                  clear hxc
                  intro wx hwx
                  obtain ⟨x, hx⟩ := hwx
                  have hb := x.below
                  rw [← hx] at hb
                  clear hx x
                  go_wp2_with fail
                  refine ⟨⟨k + 1, by omega, by omega, by go_num, ?_, hbq.trans (hb.mono hzq)⟩, by first | omega | (simp only [intOf]; omega)⟩
                  rw [hs.out, hsk.out]
                  simp
                  omega
                · generalize hca : yk[k] = ca at *
                  generalize hcb : rk[k] = cb at *
                  replace hca := Lib.hid hca
                  replace hcb := Lib.hid hcb
                  have he2 : ¬ ((ca.toNat : Nat) : Int) = ((cb.toNat : Nat) : Int) := fun h => he (UInt8.toNat_inj.1 (by omega))
                  have hfin : sharedL yk rk = k := by rw [hs.out, hsk.out, if_neg he, Nat.add_zero]
                  replace hfin := Lib.hid hfin
                  go_wp2_with fail
                  have hxc := @Ext.cell
                  refine wp_region_ext (by kernel_rfl) (by kernel_rfl) ?_
                  repeat (go_big_quiet_step ((first | fail)))
                  refine wpQuiet_nil ?_
                  clear hxc
                  intro wx hwx
                  obtain ⟨x, hx⟩ := hwx
                  have hb := x.below
                  rw [← hx] at hb
                  clear hx x
                  go_wp2_with fail
                  go_meet
                  case rel => exact ⟨by rw [hstp.out], by rw [hlead.out, hfin.out], hbq.trans (hb.mono hzq)⟩
              · obtain rfl : k = rk.length := by omega
                have h2' : ¬ ((rk.length : Nat) : Int) < (rk.length : Nat) := by omega
                have hfin : sharedL yk rk = rk.length := by
                  rw [hs, List.drop_length]
                  cases yk.drop rk.length <;> rfl
                replace hs := Lib.hid hs
                replace hfin := Lib.hid hfin
                go_wp2_with fail
                have hxc := @Ext.cell
                refine wp_region_ext (by kernel_rfl) (by kernel_rfl) ?_
                repeat (go_big_quiet_step ((first | fail)))
                refine wpQuiet_nil ?_
                clear hxc
                intro wx hwx
                obtain ⟨x, hx⟩ := hwx
                have hb := x.below
                rw [← hx] at hb
                clear hx x
                go_wp2_with fail
                go_meet
                case rel => exact ⟨by rw [hstp.out], by rw [hlead.out, hfin.out], hbq.trans (hb.mono hzq)⟩
            · obtain rfl : k = yk.length := by omega
              have h1' : ¬ ((yk.length : Nat) : Int) < (yk.length : Nat) := by omega
              have hfin : sharedL yk rk = yk.length := by
                rw [hs, List.drop_length]
                rfl
              replace hs := Lib.hid hs
              replace hfin := Lib.hid hfin
              go_wp2_with fail
              have hxc := @Ext.cell
              refine wp_region_ext (by kernel_rfl) (by kernel_rfl) ?_
              repeat (go_big_quiet_step ((first | fail)))
              refine wpQuiet_nil ?_
              clear hxc
              intro wx hwx
              obtain ⟨x, hx⟩ := hwx
              have hb := x.below
              rw [← hx] at hb
              clear hx x
              go_wp2_with fail
              go_meet
              case rel => exact ⟨by rw [hstp.out], by rw [hlead.out, hfin.out], hbq.trans (hb.mono hzq)⟩
      case rest =>
        obtain ⟨rfl, rfl, hbz⟩ := hcut
        have hbr1 := hbr.trans (hbz.mono hzr)
        have hab1 : bb < wc.heap.size := Nat.lt_of_lt_of_le hab' hbz.size
        have r1 := (hbz.cell (p := ⟨bb, oo + i * 2 + 1, none⟩) hab').trans q1
        have hle2 := BB.lead_le B rk
        have henc : (B.put rk rv).b = B.b ++ (varL1 (B.lead rk) ++ textL [rk.drop (B.lead rk), rv]) := rfl
        have hel := BB.enc_len B rk rv
        have hen : B.enc rk rv = varL1 (B.lead rk) ++ textL [rk.drop (B.lead rk), rv] := rfl
        rw [hen] at hel
        generalize B.lead rk = ld at *
        have hrow := Lib.hid fun W => Row_nat ld W (by omega)
        have hex : (bs rk).extract ld rk.length = bs (rk.drop ld) := by
          rw [ext_bs, bs_data, List.take_of_length_le (by simp)]
        have hldi : ((ld : Nat) : Int) ≤ (rk.length : Nat) := by omega
        have hwl : IntKind.u64.wrap ((ld : Nat) : Int) = (ld : Nat) := by rw [IntKind.wrap_u64]; omega
        have hdl : (rk.drop ld).length ≤ 1048576 := by rw [List.length_drop]; omega
        generalize hD : rk.drop ld = D at *
        replace hD := Lib.hid hD
        have htx := fun W g (h0 : W.cell? ⟨g, 0, none⟩ = some (.string (bs D))) (h1 : W.cell? ⟨g, 1, none⟩ = some (.string (bs rv))) (hg : g < W.heap.size) => RText_any (some ⟨g, 0, none⟩) [D, rv] 2 W ⟨rfl, fun _ => ⟨_, rfl, hg, fun j u hu => by
          rw [add_off, Nat.zero_add]
          match j, hu with
          | 0, hu => simp at hu; subst hu; exact h0
          | 1, hu => simp at hu; subst hu; exact h1
          | j + 2, hu => simp at hu⟩⟩ (by simp) (fun s hs => by
            simp at hs
            rcases hs with rfl | rfl
            · exact hdl
            · exact n2)
        generalize hR1 : varL1 ld = R1 at *
        generalize hT1 : textL [D, rv] = T1 at *
        replace hR1 := Lib.hid hR1
        replace hT1 := Lib.hid hT1
        rw [List.length_append] at hel
        have hsz1 : ¬ 9223372036854775807 < (bs B.b).size + (bs R1).size := by rw [bs_size, bs_size]; omega
        have hsz2 : ¬ 9223372036854775807 < (bs B.b ++ bs R1).size + (bs T1).size := by rw [bs_append, bs_size, bs_size, List.length_append]; omega
        have hsz3 : ¬ 9223372036854775807 < (bs B.b).size + (bs R1).size + (bs T1).size := by rw [bs_size, bs_size, bs_size]; omega
        replace htx := Lib.hid htx
        replace henc := Lib.hid henc
        go_wp2_with fail
        refine wp_region_task (fun _ wx => Below wc.heap.size wc wx) (tauL [some (.string (bs B.b)), some (.int .i64 (ld : Nat)), some (.int .u64 (ld : Nat)), some (.string (bs R1)), some (.string (bs B.b ++ bs R1)), some (.string (bs rk)), some (.int .i64 (ld : Nat)), some (.string (bs D)), some (.slice (some ⟨bb, oo, none⟩) rows.length cap), some (.int .i64 (i : Nat)), some (.pointer (some ⟨bb, oo + i * 2, none⟩)), some (.pointer (some ⟨bb, oo + i * 2 + 1, none⟩)), some (.string (bs rv)), none, some (.string (bs T1)), some (.string (bs B.b ++ bs R1 ++ bs T1)), some (.string (bs B.b ++ bs R1 ++ bs T1))] (rfT (bs D) (bs rv))) (usL [u55, u56, u57, u58, u59, u60, u61, u62, u63, u64, u65, u66, u67, u68, u69, u70, .string (bs B.b)]) ?m1 ?m2 ?m3 ?m4 (Below.refl _ _).drew ?m5 ?m6
        case m1 => kernel_rfl
        case m2 => kernel_rfl
        case m3 => kernel_rfl
        case m4 => kernel_rfl
        case m5 =>
          refine ⟨?o0, ?o1, ?o2, ?o3, ?o4, ?o5, ?o6, ?o7, ?o8, ?o9, ?o10, ?o11, ?o12, ?o13, ?o14, ?o15, ?o16, trivial⟩
          case o0 =>
            intro d us wx hd hJ hp hu hi
            have h16 : us 16 = .string (bs B.b) := (hu 16 (by kernel_rfl)).2
            refine .inl ⟨by kernel_rfl, fun K Q hK => ?_⟩
            simp only [putAll, Act.put, Nat.reduceAdd, h16] at hK ⊢
            go_simp
            refine Eq.mp ?_ (hK (.string (bs B.b)) _ hJ rfl (fun _ _ _ h => h))
            kernel_rfl
          case o1 =>
            intro d us wx hd hJ hp hu hi
            refine .inl ⟨by kernel_rfl, fun K Q hK => ?_⟩
            simp only [putAll, Act.put, Nat.reduceAdd] at hK ⊢
            go_simp
            refine Eq.mp ?_ (hK (.int .i64 (ld : Nat)) _ hJ rfl (fun _ _ _ h => h))
            kernel_rfl
          case o2 =>
            intro d us wx hd hJ hp hu hi
            have h1 : us 1 = _ := (hp 1 (by simp [Region.binds])).2
            refine .inl ⟨by kernel_rfl, fun K Q hK => ?_⟩
            simp only [putAll, Act.put, Nat.reduceAdd, h1] at hK ⊢
            go_simp
            refine Eq.mp ?_ (hK (.int .u64 (ld : Nat)) _ hJ rfl (fun _ _ _ h => h))
            kernel_rfl
          case o3 =>
            intro d us wx hd hJ hp hu hi
            have h2 : us 2 = _ := (hp 2 (by simp [Region.binds])).2
            refine .inl ⟨by kernel_rfl, fun K Q hK => ?_⟩
            simp only [putAll, Act.put, Nat.reduceAdd, h2] at hK ⊢
            go_simp
            refine (hrow.out wx).mono ?_
            rintro e w' ⟨rfl, hb⟩
            refine Eq.mp ?_ (hK (.string (bs R1)) w' (hJ.trans (hb.mono hJ.size)) rfl (fun k u _ h => rfT.mono hb k u h))
            kernel_rfl
          case o4 =>
            intro d us wx hd hJ hp hu hi
            have h0 : us 0 = _ := (hp 0 (by simp [Region.binds])).2
            have h3 : us 3 = _ := (hp 3 (by simp [Region.binds])).2
            refine .inl ⟨by kernel_rfl, fun K Q hK => ?_⟩
            simp only [putAll, Act.put, Nat.reduceAdd, h0, h3] at hK ⊢
            go_simp
            refine Eq.mp ?_ (hK (.string (bs B.b ++ bs R1)) _ hJ rfl (fun _ _ _ h => h))
            kernel_rfl
          case o5 =>
            intro d us wx hd hJ hp hu hi
            refine .inl ⟨by kernel_rfl, fun K Q hK => ?_⟩
            simp only [putAll, Act.put, Nat.reduceAdd] at hK ⊢
            go_simp
            refine Eq.mp ?_ (hK (.string (bs rk)) _ hJ rfl (fun _ _ _ h => h))
            kernel_rfl
          case o6 =>
            intro d us wx hd hJ hp hu hi
            refine .inl ⟨by kernel_rfl, fun K Q hK => ?_⟩
            simp only [putAll, Act.put, Nat.reduceAdd] at hK ⊢
            go_simp
            refine Eq.mp ?_ (hK (.int .i64 (ld : Nat)) _ hJ rfl (fun _ _ _ h => h))
            kernel_rfl
          case o7 =>
            intro d us wx hd hJ hp hu hi
            have h5 : us 5 = _ := (hp 5 (by simp [Region.binds])).2
            have h6 : us 6 = _ := (hp 6 (by simp [Region.binds])).2
            refine .inl ⟨by kernel_rfl, fun K Q hK => ?_⟩
            simp only [putAll, Act.put, Nat.reduceAdd, h5, h6] at hK ⊢
            go_simp
            refine Eq.mp ?_ (hK (.string (bs D)) _ hJ rfl (fun _ _ _ h => h))
            kernel_rfl
          case o8 =>
            intro d us wx hd hJ hp hu hi
            refine .inl ⟨by kernel_rfl, fun K Q hK => ?_⟩
            simp only [putAll, Act.put, Nat.reduceAdd] at hK ⊢
            go_simp
            refine Eq.mp ?_ (hK (.slice (some ⟨bb, oo, none⟩) rows.length cap) _ hJ rfl (fun _ _ _ h => h))
            kernel_rfl
          case o9 =>
            intro d us wx hd hJ hp hu hi
            refine .inl ⟨by kernel_rfl, fun K Q hK => ?_⟩
            simp only [putAll, Act.put, Nat.reduceAdd] at hK ⊢
            go_simp
            refine Eq.mp ?_ (hK (.int .i64 (i : Nat)) _ hJ rfl (fun _ _ _ h => h))
            kernel_rfl
          case o10 =>
            intro d us wx hd hJ hp hu hi
            have h8 : us 8 = _ := (hp 8 (by simp [Region.binds])).2
            have h9 : us 9 = _ := (hp 9 (by simp [Region.binds])).2
            refine .inl ⟨by kernel_rfl, fun K Q hK => ?_⟩
            simp only [putAll, Act.put, Nat.reduceAdd, h8, h9] at hK ⊢
            go_simp
            refine Eq.mp ?_ (hK (.pointer (some ⟨bb, oo + i * 2, none⟩)) _ hJ rfl (fun _ _ _ h => h))
            kernel_rfl
          case o11 =>
            intro d us wx hd hJ hp hu hi
            have h10 : us 10 = _ := (hp 10 (by simp [Region.binds])).2
            refine .inl ⟨by kernel_rfl, fun K Q hK => ?_⟩
            simp only [putAll, Act.put, Nat.reduceAdd, h10] at hK ⊢
            go_simp
            refine Eq.mp ?_ (hK (.pointer (some ⟨bb, oo + i * 2 + 1, none⟩)) _ hJ rfl (fun _ _ _ h => h))
            kernel_rfl
          case o12 =>
            intro d us wx hd hJ hp hu hi
            have h11 : us 11 = _ := (hp 11 (by simp [Region.binds])).2
            have y1 := (hJ.cell (p := ⟨bb, oo + i * 2 + 1, none⟩) hab1).trans r1
            refine .inl ⟨by kernel_rfl, fun K Q hK => ?_⟩
            simp only [putAll, Act.put, Nat.reduceAdd, h11] at hK ⊢
            go_simp
            refine Eq.mp ?_ (hK (.string (bs rv)) _ hJ rfl (fun _ _ _ h => h))
            kernel_rfl
          case o13 =>
            intro d us wx hd hJ hp hu hi
            have h7 : us 7 = _ := (hp 7 (by simp [Region.binds])).2
            have h12 : us 12 = _ := (hp 12 (by simp [Region.binds])).2
            refine .inl ⟨by kernel_rfl, fun K Q hK => ?_⟩
            simp only [putAll, Act.put, Nat.reduceAdd, h7, h12] at hK ⊢
            go_simp
            refine Eq.mp ?_ (hK (.slice (some ⟨wx.heap.size, 0, none⟩) 2 2) (wx.alloc (.cells #[.string (bs D), .string (bs rv)] 9)) (hJ.alloc hJ.size _) ⟨wx.heap.size, rfl, (by rw [World.size_alloc]; omega), (Blk.new wx _ _).cell 0, (Blk.new wx _ _).cell 1⟩ (fun k u _ h => rfT.mono ((Below.refl _ _).alloc (Nat.le_refl _) _) k u h))
            kernel_rfl
          case o14 =>
            intro d us wx hd hJ hp hu hi
            obtain ⟨g13, h13, l13, c13, e13⟩ : rfS (bs D) (bs rv) (us 13) wx := (hp 13 (by simp [Region.binds])).2
            refine .inl ⟨by kernel_rfl, fun K Q hK => ?_⟩
            simp only [putAll, Act.put, Nat.reduceAdd, h13] at hK ⊢
            go_simp
            refine (htx.out wx g13 c13 e13 l13).mono ?_
            rintro e w' ⟨rfl, hb⟩
            refine Eq.mp ?_ (hK (.string (bs T1)) w' (hJ.trans (hb.mono hJ.size)) rfl (fun k u _ h => rfT.mono hb k u h))
            kernel_rfl
          case o15 =>
            intro d us wx hd hJ hp hu hi
            have h4 : us 4 = _ := (hp 4 (by simp [Region.binds])).2
            have h14 : us 14 = _ := (hp 14 (by simp [Region.binds])).2
            refine .inl ⟨by kernel_rfl, fun K Q hK => ?_⟩
            simp only [putAll, Act.put, Nat.reduceAdd, h4, h14] at hK ⊢
            go_simp
            refine Eq.mp ?_ (hK (.string (bs B.b ++ bs R1 ++ bs T1)) _ hJ rfl (fun _ _ _ h => h))
            kernel_rfl
          case o16 =>
            intro d us wx hd hJ hp hu hi
            have h15 : us 15 = _ := (hp 15 (by simp [Region.binds])).2
            refine .inl ⟨by kernel_rfl, fun K Q hK => ?_⟩
            simp only [putAll, Act.put, Nat.reduceAdd, h15] at hK ⊢
            go_simp
            refine Eq.mp ?_ (hK (.string (bs B.b ++ bs R1 ++ bs T1)) _ hJ rfl (fun _ _ _ h => h))
            kernel_rfl
        intro d us wx hJ hall
        have h16 : us 16 = .string (bs B.b ++ bs R1 ++ bs T1) := (hall 16 (by simp)).2
        simp only [putAll, Act.put, Nat.reduceAdd, h16]
        go_wp2_with fail
        refine ⟨⟨i + 1, by omega, by go_num, ?_, ?_, hbr1.trans (hJ.mono hbr1.size)⟩, by first | omega | (simp only [intOf]; omega)⟩
        · rw [hput.out, henc.out, bs_append, bs_append, List.append_assoc]
        · rw [hput.out]
    · obtain rfl : i = rows.length := by omega
      have hil' : ¬ ((rows.length : Nat) : Int) < (rows.length : Nat) := by omega
      rw [List.take_length]
      have hct := foldB_count rows
      have hst := foldB_starts rows
      have hbl := foldB_blen rows hn
      have hR : outB rows = (foldB rows).b ++ fours (foldB rows).starts ++ bigL rows.length 4 := by
        unfold outB BB.out
        rw [hct]
        simp [fours]
      have hfl := fours_len (foldB rows).starts
      generalize foldB rows = B at *
      have hfo := Lib.hid (R11four_any rows.length wr (by omega))
      have hs1 : ¬ 9223372036854775807 < (bs B.b).size + (bs (fours B.starts)).size := by rw [bs_size, bs_size]; omega
      have hap := bs_append B.b (fours B.starts)
      have hs2 : ¬ 9223372036854775807 < (bs (B.b ++ fours B.starts)).size + (bs (bigL rows.length 4)).size := by rw [bs_size, bs_size, List.length_append, bigL_len]; omega
      replace hR := Lib.hid hR
      go_wp2_with fail
      refine hfo.out.mono ?_
      rintro e w1 ⟨rfl, hb1⟩
      go_wp2_with fail
      go_ret
      refine ⟨?_, hbr.trans (hb1.mono hzr)⟩
      rw [hR.out, ← bs_append (B.b ++ fours B.starts)]
      rfl
end Go.Proofs.YtfnlponoakhegaaDoor
