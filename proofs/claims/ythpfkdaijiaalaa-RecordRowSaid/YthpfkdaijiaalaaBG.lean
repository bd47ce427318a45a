/- A frame is read: by the code. -/
import Derived.Test.YthpfkdaijiaalaaBF
namespace Go.Proofs.Ythpfkdaijiaalaa
open Go.RowKit

theorem leN2_le (b : List UInt8) : leN (b.take 2) ≤ 65535 := by
  have := leN_lt (b.take 2)
  have h2 : (b.take 2).length ≤ 2 := by rw [List.length_take]; omega
  have h3 : 256 ^ (b.take 2).length ≤ 256 ^ 2 := Nat.pow_le_pow_right (by omega) h2
  omega
theorem decRec_short {b : List UInt8} (h : b.length < 2 ∨ b.length < fLen b) : decRec b = (zRc, 0, 10) := by unfold decRec; rw [if_pos h]
theorem decRec_sum {b : List UInt8} (h : ¬ (b.length < 2 ∨ b.length < fLen b)) (h2 : ¬ openOk (b.take (fLen b))) : decRec b = (zRc, 0, 20) := by unfold decRec; rw [if_neg h, if_pos h2]
theorem decRec_bad {b : List UInt8} (h : ¬ (b.length < 2 ∨ b.length < fLen b)) (h2 : openOk (b.take (fLen b))) (h3 : (readR (fIn b)).2 ≠ 0) : decRec b = (zRc, 0, 90) := by
  unfold decRec; rw [if_neg h, if_neg (fun e => e h2), if_pos]
  unfold readR at h3
  split at h3
  · exact .inl ‹_›
  · refine .inr ?_
    cases hok : okR (rdRec (fIn b, 0)).1 with
    | false => rfl
    | true => exact absurd (ckR_yes hok) h3
theorem decRec_good {b : List UInt8} (h : ¬ (b.length < 2 ∨ b.length < fLen b)) (h2 : openOk (b.take (fLen b))) (h3 : (readR (fIn b)).2 = 0) : decRec b = ((readR (fIn b)).1, (fLen b : Int), 0) ∧ okR (readR (fIn b)).1 = true := by
  unfold readR at h3 ⊢
  split at h3
  · cases h3
  · rename_i he
    simp only [if_neg he]
    have hok : okR (rdRec (fIn b, 0)).1 = true := by
      cases hok : okR (rdRec (fIn b, 0)).1 with
      | true => rfl
      | false => rw [ckR_not hok] at h3; cases h3
    refine ⟨?_, hok⟩
    unfold decRec
    rw [if_neg h, if_neg (fun e => e h2), if_neg]
    rintro (h | h)
    · exact he h
    · rw [hok] at h; cases h
theorem readR_err (bs : List UInt8) : (readR bs).2 = 0 ∨ (readR bs).2 = 90 := by
  unfold readR
  split
  · exact .inr rfl
  · unfold ckR; split
    · exact .inl rfl
    · exact .inr rfl
theorem readR_bad {bs : List UInt8} (h : (readR bs).2 ≠ 0) : (readR bs).2 = 90 := (readR_err bs).resolve_left h
theorem rText2_short {b : List UInt8} (h : b.length < 2 ∨ b.length < 2 + leN (b.take 2)) : rText b 0 65535 = ([], 10, b, 10) := rText_short (by omega)
theorem rText2_ok {b : List UInt8} (h : ¬ (b.length < 2 ∨ b.length < 2 + leN (b.take 2))) : rText b 0 65535 = (fIn b, 0, b.drop (2 + leN (b.take 2)), 0) := rText_ok (by omega) (by omega) (leN2_le b)

def RetDR (w : World) (b : List UInt8) (e : Ending) (w' : World) : Prop := e = .returned (.tuple #[rcV (decRec b).1, .int .i64 (decRec b).2.1, .int .i64 (decRec b).2.2]) ∧ Ext w w'
set_option maxRecDepth 100000 in
set_option maxHeartbeats 4000000 in
theorem rdecode_any (A : Option Addr) (n c : Nat) (b : List UInt8) (w : World) (hs : SlAt enc8 w A n c b) (hn : n ≤ 140737488355328) :
    Calls Try.prog 40 #[.slice A n c] w (RetDR w b) := by
  refine hide_post fun R hR => ?_
  have HS := Hd.mk hs; clear hs
  have HN := Hd.mk hn; clear hn
  go_enter Try.func40, Try.ntmps40
  go_wp2_with fail
  obtain ⟨W0, hW0⟩ : ∃ W0, w.alloc (Obj.cells zrs 46) = W0 := ⟨_, rfl⟩
  have hk0 : Hd (Ext w W0) := ⟨by rw [← hW0]; exact (ext_refl w).alloc _⟩
  have hb0 : Hd (W0.heap[w.heap.size]? = some (.cells zrs 46 (0, 0))) := ⟨by rw [← hW0]; exact heap_alloc_new w _⟩
  rw [hW0]
  clear hW0
  obtain ⟨gr, hgr⟩ : ∃ gr, w.heap.size = gr := ⟨_, rfl⟩
  rw [hgr] at hb0 ⊢
  have hgr := Hd.mk hgr
  refine (rof_any A n c b W0 (HS.out.ext hk0.out) HN.out).mono ?_
  rintro e W1 ⟨g, rfl, hg, hr, hk1⟩
  have hlt := (Array.getElem?_eq_some_iff.1 hb0.out).1
  have hb1 := Hd.mk (hk1.blk hb0.out id)
  have hK1 := Hd.mk (hk0.out.then' hk1)
  have hr := Hd.mk hr
  have hgg : Hd (gr < g) := ⟨by omega⟩
  clear hk1 hg hlt hb0 hk0
  go_wp2_with fail
  refine (rtext_any g b 0 65535 W1 hr.out (by have := HN.out; have := HS.out.len; omega)).mono ?_
  rintro e W2 ⟨rfl, _, hk2⟩
  have hb2 := Hd.mk (hk2.blk hb1.out (by have := hgg.out; omega))
  have hK2 : Hd (Ext w W2) := ⟨hK1.out.trans hk2 (fun k hk e => by have := hgg.out; have := hgr.out; omega)⟩
  clear hk2 hK1 hb1 hr
  have hm := leN2_le b
  have hfl : Hd (fLen b = leN (b.take 2) + 6) := ⟨rfl⟩
  have hlen := Hd.mk HS.out.len
  by_cases h1 : b.length < 2 ∨ b.length < 2 + leN (b.take 2)
  · have hdec := Hd.mk (decRec_short (b := b) (by have := hfl.out; omega))
    have ht := rText2_short h1
    rw [ht]
    clear ht h1 hm
    have hbr := hb2.out
    obtain ⟨hp0, hp1, hp2, hp3, hp4, hp5, hp6, hp7, hf0, hf1, hf2, hf3, hf4, hf5, hf6, hf7⟩ := zr_facts hbr
    have hbr := Hd.mk hbr
    go_wp2_with fail
    obtain ⟨V9, hV9⟩ : ∃ V9, (((((((W2.setCell ⟨gr, 0, none⟩ (.int .i64 0)).setCell ⟨gr, 1, none⟩ (.int .i64 0)).setCell ⟨gr, 2, none⟩ (.int .i64 0)).setCell ⟨gr, 3, none⟩ (.int .i64 0)).setCell ⟨gr, 4, none⟩ (.int .i64 0)).setCell ⟨gr, 5, none⟩ (.int .i64 0)).setCell ⟨gr, 6, none⟩ (.string ⟨#[]⟩)).setCell ⟨gr, 7, none⟩ (.string ⟨#[]⟩) = V9 := ⟨_, rfl⟩
    have hch := chain8 hbr.out _ _ _ _ _ _ _ _ hV9
    rw [hV9]
    clear hV9 hp0 hp1 hp2 hp3 hp4 hp5 hp6 hp7 hf0 hf1 hf2 hf3 hf4 hf5 hf6 hf7
    obtain ⟨he0, he1, he2, he3, he4, he5, he6, he7⟩ := rc_facts hch.1
    have hk9 := Hd.mk hch.2
    clear hch
    refine bodyPost_ret (v := .tuple #[rcV zRc, .int .i64 0, .int .i64 10]) (by simp [results, Try.results40, go_sem, he0, he1, he2, he3, he4, he5, he6, he7, zRc]) rfl ?_
    exact hR.out _ _ ⟨by rw [hdec.out], hK2.out.trans hk9.out (fun k hk e => by have := hgr.out; omega)⟩
  · have ht := rText2_ok h1
    have hin : Hd ((fIn b).length = leN (b.take 2)) := ⟨by unfold fIn; rw [List.length_take, List.length_drop]; omega⟩
    have h1 := Hd.mk h1
    rw [ht]
    clear ht
    obtain ⟨m, hm2⟩ : ∃ m, leN (b.take 2) = m := ⟨_, rfl⟩
    rw [hm2] at hm hin hfl
    have hm2 := Hd.mk hm2
    have hmb : (m : Int) ≤ 65535 := by omega
    have hnb : (n : Int) ≤ 140737488355328 := by have := HN.out; omega
    have hsz : (bsStr (fIn b)).size = m := by rw [bsStr_size]; exact hin.out
    obtain ⟨S, hS⟩ : ∃ S, bsStr (fIn b) = S := ⟨_, rfl⟩
    simp only [hS]
    rw [hS] at hsz
    have hS := Hd.mk hS
    by_cases h2 : n < m + 6
    · have hdec := Hd.mk (decRec_short (b := b) (by have := hfl.out; have := hlen.out; omega))
      have h2' : (n : Int) < (m : Int) + 6 := by omega
      have h2'' : (n : Int) < 2 + (m : Int) + 4 := by omega
      have h2 := Hd.mk h2
      have hbr := hb2.out
      obtain ⟨hp0, hp1, hp2, hp3, hp4, hp5, hp6, hp7, hf0, hf1, hf2, hf3, hf4, hf5, hf6, hf7⟩ := zr_facts hbr
      have hbr := Hd.mk hbr
      go_wp2_with fail
      obtain ⟨V9, hV9⟩ : ∃ V9, (((((((W2.setCell ⟨gr, 0, none⟩ (.int .i64 0)).setCell ⟨gr, 1, none⟩ (.int .i64 0)).setCell ⟨gr, 2, none⟩ (.int .i64 0)).setCell ⟨gr, 3, none⟩ (.int .i64 0)).setCell ⟨gr, 4, none⟩ (.int .i64 0)).setCell ⟨gr, 5, none⟩ (.int .i64 0)).setCell ⟨gr, 6, none⟩ (.string ⟨#[]⟩)).setCell ⟨gr, 7, none⟩ (.string ⟨#[]⟩) = V9 := ⟨_, rfl⟩
      have hch := chain8 hbr.out _ _ _ _ _ _ _ _ hV9
      rw [hV9]
      clear hV9 hp0 hp1 hp2 hp3 hp4 hp5 hp6 hp7 hf0 hf1 hf2 hf3 hf4 hf5 hf6 hf7
      obtain ⟨he0, he1, he2, he3, he4, he5, he6, he7⟩ := rc_facts hch.1
      have hk9 := Hd.mk hch.2
      clear hch
      refine bodyPost_ret (v := .tuple #[rcV zRc, .int .i64 0, .int .i64 10]) (by simp [results, Try.results40, go_sem, he0, he1, he2, he3, he4, he5, he6, he7, zRc]) rfl ?_
      exact hR.out _ _ ⟨by rw [hdec.out], hK2.out.trans hk9.out (fun k hk e => by have := hgr.out; omega)⟩
    · have h3 : Hd (¬ (b.length < 2 ∨ b.length < fLen b)) := ⟨by have := hfl.out; have := hlen.out; omega⟩
      have h2' : ¬ (n : Int) < 2 + (m : Int) + 4 := by omega
      have h2 := Hd.mk h2
      obtain ⟨N, hNq⟩ : ∃ N, m + 6 = N := ⟨_, rfl⟩
      have hN := Hd.mk hNq
      clear hNq
      obtain ⟨ht, hcut⟩ := cut_to Try.E8 HS.out N (by have := h2.out; have := hN.out; omega)
      have hcut' : ∀ w', (Instr.slice 31 (.slice A n c) none (some (.int .i64 (2 + (m : Int) + 4))) none).run Try.prog w' = .ok (.slice A N c) w' := by
        have e : (2 + (m : Int) + 4) = ((N : Nat) : Int) := by have := hN.out; omega
        rw [e]; exact hcut
      clear hcut
      go_wp2_with fail
      refine (clone8_any A N c (b.take N) W2 (ht.out.ext hK2.out) (by have := hN.out; omega)).mono ?_
      rintro e W3 ⟨A3, c3, rfl, ho3, hk3⟩
      have hl3 : Hd ((b.take N).length = N) := ⟨by rw [List.length_take]; have := h2.out; have := hlen.out; have := hN.out; omega⟩
      rw [hl3.out] at ho3 ⊢
      have ho3 := Hd.mk ho3
      have hK3 := Hd.mk (hK2.out.then' hk3)
      have hb3 := Hd.mk (hk3.blk hb2.out id)
      clear hk3 hcut' hb2
      go_wp2_with fail
      refine (open_any A3 N c3 (b.take N) W3 ho3.out.sl (by have := hN.out; omega)).mono ?_
      rintro e W4 ⟨hk4, hyes, hnot⟩
      have hK4 := Hd.mk (hK3.out.then' hk4)
      have hb4 := Hd.mk (hk4.blk hb3.out id)
      clear hk4 hb3 ho3
      by_cases hop : openOk (b.take N)
      · obtain ⟨A5, c5, rfl, _⟩ := hyes hop
        have hop : Hd (openOk (b.take (fLen b))) := ⟨by rw [hfl.out, hN.out]; exact hop⟩
        clear hyes hnot
        obtain ⟨A6, c6, W5, hcv, hs6, hk5⟩ := conv_bytes S (by omega) W4
        rw [hsz] at hcv hs6
        have hs6 : Hd (SlAt enc8 W5 A6 m c6 (fIn b)) := ⟨by rw [← hS.out, bsStr_toList] at hs6; exact hs6⟩
        have hK5 := Hd.mk (hK4.out.then' hk5)
        have hb5 := Hd.mk (hk5.blk hb4.out id)
        clear hk5 hb4
        go_wp2_with fail
        refine (read_any A6 m c6 (fIn b) W5 hs6.out (by omega)).mono ?_
        rintro e W6 ⟨rfl, hk6⟩
        have hK6 := Hd.mk (hK5.out.then' hk6)
        have hb6 := Hd.mk (hk6.blk hb5.out id)
        clear hk6 hb5 hcv
        obtain ⟨r, hr⟩ : ∃ r, (readR (fIn b)).1 = r := ⟨_, rfl⟩
        obtain ⟨x, hx⟩ : ∃ x, (readR (fIn b)).2 = x := ⟨_, rfl⟩
        rw [hr, hx]
        have hr := Hd.mk hr
        have hx := Hd.mk hx
        obtain ⟨lsn, epoch, kind, page, other, req, key, value⟩ := r
        simp only [rcV]
        go_upto_region 9 with fail
        obtain ⟨W7, hW7⟩ : ∃ W, W6.alloc (.cells #[.int .i64 lsn, .int .i64 epoch, .int .i64 kind, .int .i64 page, .int .i64 other, .int .i64 req, .string key, .string value] 46) = W := ⟨_, rfl⟩
        have hcur := Hd.mk (Rx.first (⟨lsn, epoch, kind, page, other, req, key, value⟩ : Rc) hW7)
        rw [hW7]
        clear hW7
        obtain ⟨g7, hg7⟩ : ∃ g, W6.heap.size = g := ⟨_, rfl⟩
        rw [hg7] at hcur ⊢
        clear hg7
        have hK7 := Hd.mk (hK6.out.then' hcur.out.ext)
        have hbr := hcur.out.ext.blk hb6.out id
        obtain ⟨hp0, hp1, hp2, hp3, hp4, hp5, hp6, hp7, hf0, hf1, hf2, hf3, hf4, hf5, hf6, hf7⟩ := zr_facts hbr
        have hbr := Hd.mk hbr
        obtain ⟨hd0, hd1, hd2, hd3, hd4, hd5, hd6, hd7⟩ := rc_facts hcur.out.box
        cases hz : (x != 0) with
        | true =>
          have hz2 : Hd ((readR (fIn b)).2 ≠ 0) := ⟨by rw [hx.out]; simpa using hz⟩
          have hdec := Hd.mk (decRec_bad h3.out hop.out hz2.out)
          have hx90 : x = 90 := by rw [← hx.out]; exact readR_bad hz2.out
          subst hx90
          clear hz
          go_wp2_with fail
          clear hd0 hd1 hd2 hd3 hd4 hd5 hd6 hd7
          obtain ⟨V9, hV9⟩ : ∃ V9, (((((((W7.setCell ⟨gr, 0, none⟩ (.int .i64 0)).setCell ⟨gr, 1, none⟩ (.int .i64 0)).setCell ⟨gr, 2, none⟩ (.int .i64 0)).setCell ⟨gr, 3, none⟩ (.int .i64 0)).setCell ⟨gr, 4, none⟩ (.int .i64 0)).setCell ⟨gr, 5, none⟩ (.int .i64 0)).setCell ⟨gr, 6, none⟩ (.string ⟨#[]⟩)).setCell ⟨gr, 7, none⟩ (.string ⟨#[]⟩) = V9 := ⟨_, rfl⟩
          have hch := chain8 hbr.out _ _ _ _ _ _ _ _ hV9
          rw [hV9]
          clear hV9 hp0 hp1 hp2 hp3 hp4 hp5 hp6 hp7 hf0 hf1 hf2 hf3 hf4 hf5 hf6 hf7
          obtain ⟨he0, he1, he2, he3, he4, he5, he6, he7⟩ := rc_facts hch.1
          have hk9 := Hd.mk hch.2
          clear hch
          refine bodyPost_ret (v := .tuple #[rcV zRc, .int .i64 0, .int .i64 90]) (by simp [results, Try.results40, go_sem, he0, he1, he2, he3, he4, he5, he6, he7, zRc]) rfl ?_
          exact hR.out _ _ ⟨by rw [hdec.out], hK7.out.trans hk9.out (fun k hk e => by have := hgr.out; omega)⟩
        | false =>
          have hz2 : Hd ((readR (fIn b)).2 = 0) := ⟨by rw [hx.out]; simpa using hz⟩
          have hdec : Hd (decRec b = (⟨lsn, epoch, kind, page, other, req, key, value⟩, (fLen b : Int), 0)) := ⟨by rw [(decRec_good h3.out hop.out hz2.out).1, hr.out]⟩
          have hfi : Hd ((fLen b : Int) = 2 + (m : Int) + 4) := ⟨by rw [hfl.out]; omega⟩
          go_wp2_with fail
          obtain ⟨V9, hV9⟩ : ∃ V9, (((((((W7.setCell ⟨gr, 0, none⟩ (.int .i64 lsn)).setCell ⟨gr, 1, none⟩ (.int .i64 epoch)).setCell ⟨gr, 2, none⟩ (.int .i64 kind)).setCell ⟨gr, 3, none⟩ (.int .i64 page)).setCell ⟨gr, 4, none⟩ (.int .i64 other)).setCell ⟨gr, 5, none⟩ (.int .i64 req)).setCell ⟨gr, 6, none⟩ (.string key)).setCell ⟨gr, 7, none⟩ (.string value) = V9 := ⟨_, rfl⟩
          have hch := chain8 hbr.out _ _ _ _ _ _ _ _ hV9
          rw [hV9]
          clear hV9 hp0 hp1 hp2 hp3 hp4 hp5 hp6 hp7 hf0 hf1 hf2 hf3 hf4 hf5 hf6 hf7 hd0 hd1 hd2 hd3 hd4 hd5 hd6 hd7
          obtain ⟨he0, he1, he2, he3, he4, he5, he6, he7⟩ := rc_facts hch.1
          have hk9 := Hd.mk hch.2
          clear hch
          refine bodyPost_ret (v := .tuple #[rcV (⟨lsn, epoch, kind, page, other, req, key, value⟩ : Rc), .int .i64 (2 + (m : Int) + 4), .int .i64 0]) (by simp [results, Try.results40, go_sem, he0, he1, he2, he3, he4, he5, he6, he7]) rfl ?_
          exact hR.out _ _ ⟨by rw [hdec.out, ← hfi.out], hK7.out.trans hk9.out (fun k hk e => by have := hgr.out; omega)⟩
      · have hdec : Hd (decRec b = (zRc, 0, 20)) := ⟨decRec_sum h3.out (by rw [hfl.out, hN.out]; exact hop)⟩
        obtain rfl := hnot hop
        rw [if_neg (show ¬ (b.take N).length < 4 by have := hl3.out; have := hN.out; omega)]
        clear hyes hnot hop
        have hbr := hb4.out
        obtain ⟨hp0, hp1, hp2, hp3, hp4, hp5, hp6, hp7, hf0, hf1, hf2, hf3, hf4, hf5, hf6, hf7⟩ := zr_facts hbr
        have hbr := Hd.mk hbr
        go_wp2_with fail
        obtain ⟨V9, hV9⟩ : ∃ V9, (((((((W4.setCell ⟨gr, 0, none⟩ (.int .i64 0)).setCell ⟨gr, 1, none⟩ (.int .i64 0)).setCell ⟨gr, 2, none⟩ (.int .i64 0)).setCell ⟨gr, 3, none⟩ (.int .i64 0)).setCell ⟨gr, 4, none⟩ (.int .i64 0)).setCell ⟨gr, 5, none⟩ (.int .i64 0)).setCell ⟨gr, 6, none⟩ (.string ⟨#[]⟩)).setCell ⟨gr, 7, none⟩ (.string ⟨#[]⟩) = V9 := ⟨_, rfl⟩
        have hch := chain8 hbr.out _ _ _ _ _ _ _ _ hV9
        rw [hV9]
        clear hV9 hp0 hp1 hp2 hp3 hp4 hp5 hp6 hp7 hf0 hf1 hf2 hf3 hf4 hf5 hf6 hf7
        obtain ⟨he0, he1, he2, he3, he4, he5, he6, he7⟩ := rc_facts hch.1
        have hk9 := Hd.mk hch.2
        clear hch
        refine bodyPost_ret (v := .tuple #[rcV zRc, .int .i64 0, .int .i64 20]) (by simp [results, Try.results40, go_sem, he0, he1, he2, he3, he4, he5, he6, he7, zRc]) rfl ?_
        exact hR.out _ _ ⟨by rw [hdec.out], hK4.out.trans hk9.out (fun k hk e => by have := hgr.out; omega)⟩
end Go.Proofs.Ythpfkdaijiaalaa
