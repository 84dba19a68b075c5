/- table.Builder: Add to a done builder. table.Builder: what keeps a run small; Finish of a run. -/
import Derived.Test.YtfnlponoakhegaaDoorTFinJ
import Derived.Test.YtfnlponoakhegaaDoorTFinEJ
import Derived.Test.YtfnlponoakhegaaDoorTFinYJ
import Derived.Test.YtfnlponoakhegaaDoorB04
namespace Go.Proofs.YtfnlponoakhegaaDoor
open Go.RowKit
set_option linter.unusedVariables false
set_option linter.unusedSimpArgs false
set_option maxRecDepth 100000 in
set_option maxHeartbeats 1000000 in
theorem TAdd_done {w : World} {g : Nat} {s : TB} {vb1 vs1 vb2 vs2 vk vp : Value} (hB : Blk w g 67 (tbC s vb1 vs1 vb2 vs2 vk vp)) (hd : s.done = true) (e : Ent) :
    Calls Tryd.prog 10 #[.pointer (some ⟨g, 0, none⟩), .agg (entC e)] w fun r w' => r = .returned (.tuple #[.string ⟨#[]⟩, .int .i64 9]) ∧ Below w.heap.size w w' := by
  have hA : Below w.heap.size w (w.alloc (.cells (entC e) 33)) := (Below.refl _ _).alloc (Nat.le_refl _) _
  have hlt := hB.lt
  have c20 : w.cell? ⟨g, 20, none⟩ = some (.bool true) := (hB.cell 20).trans (by simp [tbC, hd])
  replace hd := Lib.hid hd
  unfold entC
  unfold entC at hA
  go_enter Tryd.func10, Tryd.ntmps10
  go_wp2_with fail
  go_ret2
  exact ⟨rfl, hA⟩
theorem varL1_pos (n : Nat) : 1 ≤ (varL1 n).length := by
  unfold varL1
  split <;> simp
theorem enc_pos (s : BB) (k v : L) : 1 ≤ (s.enc k v).length := by
  unfold BB.enc
  have := varL1_pos (s.lead k)
  rw [List.length_append]
  omega
theorem foldB_len_ge (es : List (L × L)) : es.length ≤ (foldB es).b.length := by
  induction es using snocRec with
  | nil => simp
  | snoc es e ih =>
    rw [foldB_snoc]
    unfold BB.put
    have := enc_pos (foldB es) e.1 e.2
    simp only [List.length_append, List.length_singleton]
    omega
theorem ixOf_key : ∀ (bls : List (List (L × L))) (a : Nat) (x : L × L), x ∈ ixOf a bls → ∃ b ∈ bls, x.1 = lastK b
  | [], a, x, h => by cases h
  | b :: r, a, x, h => by
    unfold ixOf at h
    rcases List.mem_cons.1 h with rfl | h
    · exact ⟨b, List.mem_cons_self .., rfl⟩
    · obtain ⟨c, hc, e⟩ := ixOf_key r _ x h
      exact ⟨c, List.mem_cons_of_mem _ hc, e⟩
section
variable {n : Nat} {lv : Int} {own : List Ent} {s : TB} {out : L} {bls : List (List (L × L))} {cur : List (L × L)}
theorem RunI.key_len (h : RunI n lv own s out bls cur) {x : L × L} (hx : x ∈ bls.flatten ++ cur) : x.1.length ≤ 139 := by
  rw [h.rows] at hx
  obtain ⟨y, hy, rfl⟩ := List.mem_map.1 hx
  exact rowK_len (h.small y hy).1
theorem lastK_le (l : List (L × L)) {m : Nat} (h : ∀ x ∈ l, x.1.length ≤ m) : (lastK l).length ≤ m := by
  rcases l.eq_nil_or_concat with rfl | ⟨c, x, rfl⟩
  · simp [lastK]
  · have e : lastK (c.concat x) = x.1 := by rw [List.concat_eq_append]; exact lastK_snoc c x
    rw [e]
    exact h x (by simp)
theorem RunI.tbd (h : RunI n lv own s out bls cur) {M : Nat} (hM : own.length ≤ M) : TBd s M := by
  have hcs := h.csz
  have hd := h.data
  have hst := foldB_starts cur
  have hle := foldB_starts_le cur
  have hge := foldB_len_ge cur
  have hct := foldB_count cur
  have hbl := h.blen
  have hix := h.index
  have hib := h.ib
  have hixs := foldB_starts (ixOf 0 bls)
  have hixc := foldB_count (ixOf 0 bls)
  rw [ixOf_len] at hixs hixc
  have hkey : ∀ b ∈ bls, (lastK b).length ≤ 139 := fun b hb => lastK_le b (fun x hx => h.key_len (List.mem_append_left _ (List.mem_flatten.2 ⟨b, hb, hx⟩)))
  unfold BB.size at hcs
  refine ⟨?_, ?_, ?_, ?_, ?_, ?_, ?_, ?_, ?_, ?_, ?_, ?_, ?_, ?_⟩
  · rw [hd]; omega
  · rw [hd]; omega
  · rw [hd]
    intro m hm
    have := hle m hm
    omega
  · rw [hd]; omega
  · rw [hd, foldB_lastK]
    exact Nat.le_trans (lastK_le cur (fun x hx => h.key_len (List.mem_append_right _ hx))) (by omega)
  · rw [hix]; omega
  · rw [hix]; omega
  · rw [hix]; omega
  · rw [hix, foldB_lastK]
    refine Nat.le_trans (lastK_le _ (fun x hx => ?_) : _ ≤ 139) (by omega)
    obtain ⟨b, hb, e⟩ := ixOf_key bls 0 x hx
    rw [e]
    exact hkey b hb
  · rw [h.at_]; omega
  · rw [h.parts, List.length_map]; omega
  · have := h.kl; omega
  · rw [h.count]; exact hM
  · intro h0
    rw [h.count] at h0
    have : own = [] := List.eq_nil_of_length_eq_zero h0
    rw [h.tlast, this]
    rfl
theorem RunI.parts_len (h : RunI n lv own s out bls cur) : ∀ p ∈ s.parts, p.length ≤ 1000 := by
  intro p hp
  rw [h.parts] at hp
  obtain ⟨b, hb, rfl⟩ := List.mem_map.1 hp
  exact (h.vbls b hb).2.2
theorem RunI.ix_starts (h : RunI n lv own s out bls cur) : ∀ m ∈ s.index.starts, m ≤ s.index.b.length := by
  rw [h.index]
  exact foldB_starts_le _
theorem RunI.outL_eq (h : RunI n lv own s out bls cur) (hne : own ≠ []) : s.outL = s.rest ++ s.fin.tail := by
  unfold TB.outL
  rw [if_neg]
  rintro (h1 | h1)
  · rw [h.done] at h1; cases h1
  · rw [h.count] at h1
    exact hne (List.eq_nil_of_length_eq_zero h1)
theorem RunI.outL_nil (h : RunI n lv own s out bls cur) (hne : own = []) : s.outL = [] := by
  unfold TB.outL
  rw [if_pos (.inr (by rw [h.count, hne]; rfl))]
set_option maxHeartbeats 1000000 in
theorem Fin_run {w : World} {F : Nat → Prop} {g : Nat} (hT : TBIn w F g s) (hG : Gl w) (hG0 : ¬ F 0) (hG1 : ¬ F 1) (h : RunI n lv own s out bls cur) (hne : own ≠ []) (hM : own.length ≤ 1073741824) :
    Calls Tryd.prog 9 #[.pointer (some ⟨g, 0, none⟩)] w fun r w' => r = .returned (.tuple #[.string (bs s.outL), .agg (tiC { s.t with size := out.length + s.outL.length }), .int .i64 0]) ∧ (∃ s', s'.done = true ∧ ∃ a b c d e f, Blk w' g 67 (tbC s' a b c d e f)) ∧ KeptBut w w' F := by
  have hb := h.tbd hM
  have hcount : s.t.count ≠ 0 := by
    rw [h.count]
    exact fun e => hne (List.eq_nil_of_length_eq_zero e)
  have hpl := h.parts_len
  have hxs := h.ix_starts
  have hks := h.ks
  have hbl := h.blen
  have hout := h.outL_eq hne
  have hat := h.at_
  rcases Nat.eq_zero_or_pos s.data.count with h0 | h0
  · have hrest : s.rest = [] := by unfold TB.rest; rw [if_neg (by omega)]
    have hfin : s.fin = s := by unfold TB.fin; rw [if_neg (by omega)]
    rw [hrest, hfin, List.nil_append] at hout
    refine (Fin_no hT hG hG0 hG1 (by have := hb.pl; omega) (fun p hp => by have := hpl p hp; omega) h.done hcount h0 (fun k hk => by have := hks k hk; omega) (by have := hb.kl; omega) (by have := hb.ib; omega) (by have := hb.is_; omega) (by have := hb.ic; omega) (fun m hm => by have := hxs m hm; have := hb.ib; omega) (by have := hb.at_; omega) (by have := hb.tc; omega)).mono ?_
    rintro r w' ⟨rfl, ⟨a, b, c, d, e, f, hB⟩, hk⟩
    refine ⟨?_, ⟨_, rfl, a, b, c, d, e, f, hB⟩, hk⟩
    rw [hout, hat]
  · have hcur : cur ≠ [] := by
      rintro rfl
      rw [h.data] at h0
      exact absurd h0 (by decide)
    have he := h.ends_ hcur
    have heb := he.tbd hM
    have hpl2 := he.parts_len
    have hxs2 := he.ix_starts
    have hks2 := he.ks
    have hrest : s.rest = s.data.out := by unfold TB.rest; rw [if_pos h0]
    have hfin : s.fin = s.ends := by unfold TB.fin; rw [if_pos h0]
    rw [hrest, hfin] at hout
    refine (Fin_yes hT hG hG0 hG1 (by have := heb.pl; omega) (fun p hp => by have := hpl2 p hp; omega) h.done hcount h0 (by have := hb.b; omega) (by have := hb.st; omega) (fun m hm => by have := hb.se m hm; omega) (by have := hb.ct; omega) (by have := hb.ib; omega) (by have := hb.is_; omega) (by have := hb.ic; omega) (hb.il) (by have := hb.at_; omega) (by have := hb.pl; omega)
      (fun k hk => by have := hks2 k hk; omega) (by have := heb.kl; omega) (by have := heb.ib; omega) (by have := heb.is_; omega) (by have := heb.ic; omega) (fun m hm => by have := hxs2 m hm; have := heb.ib; omega) (by have := heb.at_; omega) (by have := heb.tc; omega)).mono ?_
    rintro r w' ⟨rfl, ⟨a, b, c, d, e, f, hB⟩, hk⟩
    refine ⟨?_, ⟨_, rfl, a, b, c, d, e, f, hB⟩, hk⟩
    have e1 : s.ends.at_ + s.ends.tail.length = out.length + s.outL.length := by
      rw [he.at_, hout, List.length_append, List.length_append]
      omega
    rw [hout] at e1 ⊢
    rw [e1]
    rfl
end
end Go.Proofs.YtfnlponoakhegaaDoor
