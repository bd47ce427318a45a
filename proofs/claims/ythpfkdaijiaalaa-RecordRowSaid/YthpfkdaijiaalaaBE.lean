/- A record's frame: written by the code, and by the reference. -/
import Derived.Test.YthpfkdaijiaalaaBB
import Derived.Test.YthpfkdaijiaalaaBC
import Derived.Test.YthpfkdaijiaalaaBD
namespace Go.Proofs.Ythpfkdaijiaalaa
open Go.RowKit

def RetFr (w : World) (r : Rc) (e : Ending) (w' : World) : Prop :=
  Ext w w' ∧ (okR r = true → ∃ A c, e = .returned (.tuple #[.slice A (frameB r).length c, .int .i64 0]) ∧ Own enc8 1 5 w.heap.size w' A (frameB r).length c (frameB r)) ∧
    (okR r = false → e = .returned (.tuple #[.slice none 0 0, .int .i64 90]))
theorem ckR_yes {r : Rc} (h : okR r = true) : ckR r = 0 := by unfold ckR; rw [if_pos h]
theorem ckR_not {r : Rc} (h : okR r = false) : ckR r = 90 := by unfold ckR; rw [h]; rfl

theorem refck_any (r : Rc) (hr : RcS r) (w : World) : Calls Try.prog 38 #[rcV r] w fun e w' => e = .returned (.int .i64 (ckR r)) ∧ Ext w w' := by
  refine hide_post fun R hR => ?_
  have hr := Hd.mk hr
  obtain ⟨lsn, epoch, kind, page, other, req, key, value⟩ := r
  simp only [rcV]
  go_enter Try.func38, Try.ntmps38
  go_wp2_with fail
  obtain ⟨W, hW⟩ : ∃ W, w.alloc (.cells #[.int .i64 lsn, .int .i64 epoch, .int .i64 kind, .int .i64 page, .int .i64 other, .int .i64 req, .string key, .string value] 46) = W := ⟨_, rfl⟩
  have hcur := Hd.mk (Rx.first (⟨lsn, epoch, kind, page, other, req, key, value⟩ : Rc) hW)
  rw [hW]
  clear hW
  refine (rright_any (⟨lsn, epoch, kind, page, other, req, key, value⟩ : Rc) hr.out W).mono ?_
  rintro e W2 ⟨rfl, hk⟩
  have hK := Hd.mk (hcur.out.ext.then' hk)
  cases hok : okR ⟨lsn, epoch, kind, page, other, req, key, value⟩ with
  | true =>
    have h0 := Hd.mk (ckR_yes hok)
    go_wp2_with fail
    exact hR.out _ _ ⟨by rw [h0.out]; rfl, hK.out⟩
  | false =>
    have h0 := Hd.mk (ckR_not hok)
    go_wp2_with fail
    exact hR.out _ _ ⟨by rw [h0.out]; rfl, hK.out⟩

set_option maxRecDepth 100000 in
set_option maxHeartbeats 4000000 in
theorem rencode_any (r : Rc) (hr : RcS r) (w : World) : Calls Try.prog 35 #[rcV r] w (RetFr w r) := by
  refine hide_post fun R hR => ?_
  have hr := Hd.mk hr
  obtain ⟨lsn, epoch, kind, page, other, req, key, value⟩ := r
  simp only [rcV]
  cases hok : okR ⟨lsn, epoch, kind, page, other, req, key, value⟩ with
  | false =>
    have hE := Hd.mk (ckR_not hok)
    have hok := Hd.mk hok
    go_enter Try.func35, Try.ntmps35
    go_wp2_with fail
    obtain ⟨W, hW⟩ : ∃ W, w.alloc (.cells #[.int .i64 lsn, .int .i64 epoch, .int .i64 kind, .int .i64 page, .int .i64 other, .int .i64 req, .string key, .string value] 46) = W := ⟨_, rfl⟩
    have hcur := Hd.mk (Rx.first (⟨lsn, epoch, kind, page, other, req, key, value⟩ : Rc) hW)
    rw [hW]
    clear hW
    refine (rcheck_any (⟨lsn, epoch, kind, page, other, req, key, value⟩ : Rc) hr.out W).mono ?_
    rintro e W2 ⟨rfl, hk⟩
    have hK := Hd.mk (hcur.out.ext.then' hk)
    rw [hE.out]
    go_wp2_with fail
    exact hR.out _ _ ⟨hK.out, fun h => (by rw [hok.out] at h; cases h), fun _ => rfl⟩
  | true =>
    have hE := Hd.mk (ckR_yes hok)
    have F := Hd.mk (okR_fit hok)
    have hok := Hd.mk hok
    go_enter Try.func35, Try.ntmps35
    go_wp2_with fail
    obtain ⟨W, hW⟩ : ∃ W, w.alloc (.cells #[.int .i64 lsn, .int .i64 epoch, .int .i64 kind, .int .i64 page, .int .i64 other, .int .i64 req, .string key, .string value] 46) = W := ⟨_, rfl⟩
    have hcur := Hd.mk (Rx.first (⟨lsn, epoch, kind, page, other, req, key, value⟩ : Rc) hW)
    rw [hW]
    clear hW
    refine (rcheck_any (⟨lsn, epoch, kind, page, other, req, key, value⟩ : Rc) hr.out W).mono ?_
    rintro e W2 ⟨rfl, hk⟩
    have hcur2 := Hd.mk (hcur.out.go hk)
    clear hcur hk
    rw [hE.out]
    go_wp2_with fail
    refine (wnew_any _).mono ?_
    rintro e V ⟨rfl, hwr, hk3⟩
    obtain ⟨B, hB⟩ : ∃ B, W2.heap.size = B := ⟨_, rfl⟩
    rw [hB] at hwr ⊢
    have hst0 : Hd (St w V B (.cells #[.int .i64 lsn, .int .i64 epoch, .int .i64 kind, .int .i64 page, .int .i64 other, .int .i64 req, .string key, .string value] 46 (0, 0)) []) :=
      ⟨⟨hcur2.out.ext.then' hk3, hk3.blk hcur2.out.box id, hwr, by have := (Array.getElem?_eq_some_iff.1 hcur2.out.box).1; omega⟩⟩
    have hBB := Hd.mk hB
    clear hwr hk3 hcur2 hB
    have F0 := F.out.lsn1
    have F1 := F.out.lsn
    have F2 := F.out.epoch0
    have F3 := F.out.epoch
    have F4 := F.out.kind0
    have F5 := F.out.kind
    have F6 := F.out.page0
    have F7 := F.out.page
    have F8 := F.out.other0
    have F9 := F.out.other
    have F10 := F.out.req0
    have F11 := F.out.req
    have F12 := F.out.key
    have F13 := F.out.value
    (try simp only at F0 F1 F2 F3 F4 F5 F6 F7 F8 F9 F10 F11 F12 F13)
    obtain ⟨hc0, hc1, hc2, hc3, hc4, hc5, hc6, hc7⟩ := rc_facts hst0.out.box
    go_wp2_with fail
    refine (wnum_ok B B _ lsn 8 rfl (by omega) (by omega) (fun _ => by omega) _ hst0.out.wr (by simp)).mono ?_
    rintro e V1 ⟨rfl, hw1, hk1⟩
    have hst1 := Hd.mk (hst0.out.step hw1 hk1)
    clear hw1 hk1 hc0 hc1 hc2 hc3 hc4 hc5 hc6 hc7 hst0
    obtain ⟨hc0, hc1, hc2, hc3, hc4, hc5, hc6, hc7⟩ := rc_facts hst1.out.box
    go_wp2_with fail
    refine (wnum_ok B B _ epoch 8 rfl F2 (by omega) (fun _ => by omega) _ hst1.out.wr (by simp [leB_len])).mono ?_
    rintro e V1 ⟨rfl, hw1, hk1⟩
    have hst2 := Hd.mk (hst1.out.step hw1 hk1)
    clear hw1 hk1 hc0 hc1 hc2 hc3 hc4 hc5 hc6 hc7 hst1
    obtain ⟨hc0, hc1, hc2, hc3, hc4, hc5, hc6, hc7⟩ := rc_facts hst2.out.box
    go_wp2_with fail
    refine (wnum_ok B B _ kind 1 rfl F4 (by omega) (fun _ => by omega) _ hst2.out.wr (by simp [leB_len])).mono ?_
    rintro e V1 ⟨rfl, hw1, hk1⟩
    have hst3 := Hd.mk (hst2.out.step hw1 hk1)
    clear hw1 hk1 hc0 hc1 hc2 hc3 hc4 hc5 hc6 hc7 hst2
    obtain ⟨hc0, hc1, hc2, hc3, hc4, hc5, hc6, hc7⟩ := rc_facts hst3.out.box
    go_wp2_with fail
    refine (wnum_ok B B _ page 4 rfl F6 (by omega) (fun _ => by omega) _ hst3.out.wr (by simp [leB_len])).mono ?_
    rintro e V1 ⟨rfl, hw1, hk1⟩
    have hst4 := Hd.mk (hst3.out.step hw1 hk1)
    clear hw1 hk1 hc0 hc1 hc2 hc3 hc4 hc5 hc6 hc7 hst3
    obtain ⟨hc0, hc1, hc2, hc3, hc4, hc5, hc6, hc7⟩ := rc_facts hst4.out.box
    go_wp2_with fail
    refine (wnum_ok B B _ other 4 rfl F8 (by omega) (fun _ => by omega) _ hst4.out.wr (by simp [leB_len])).mono ?_
    rintro e V1 ⟨rfl, hw1, hk1⟩
    have hst5 := Hd.mk (hst4.out.step hw1 hk1)
    clear hw1 hk1 hc0 hc1 hc2 hc3 hc4 hc5 hc6 hc7 hst4
    obtain ⟨hc0, hc1, hc2, hc3, hc4, hc5, hc6, hc7⟩ := rc_facts hst5.out.box
    go_wp2_with fail
    refine (wnum_ok B B _ req 8 rfl F10 (by omega) (fun _ => by omega) _ hst5.out.wr (by simp [leB_len])).mono ?_
    rintro e V1 ⟨rfl, hw1, hk1⟩
    have hst6 := Hd.mk (hst5.out.step hw1 hk1)
    clear hw1 hk1 hc0 hc1 hc2 hc3 hc4 hc5 hc6 hc7 hst5
    obtain ⟨hc0, hc1, hc2, hc3, hc4, hc5, hc6, hc7⟩ := rc_facts hst6.out.box
    go_wp2_with fail
    refine (wtext_ok B B _ key (by omega) _ hst6.out.wr (by simp only [List.length_append, List.length_nil, leB_len]; (try rw [← size_list]); omega)).mono ?_
    rintro e V1 ⟨rfl, hw1, hk1⟩
    have hst7 := Hd.mk (hst6.out.step hw1 hk1)
    clear hw1 hk1 hc0 hc1 hc2 hc3 hc4 hc5 hc6 hc7 hst6
    obtain ⟨hc0, hc1, hc2, hc3, hc4, hc5, hc6, hc7⟩ := rc_facts hst7.out.box
    go_wp2_with fail
    refine (wtext_ok B B _ value (by omega) _ hst7.out.wr (by simp only [List.length_append, List.length_nil, leB_len]; (try rw [← size_list]); omega)).mono ?_
    rintro e V1 ⟨rfl, hw1, hk1⟩
    have hst8 := Hd.mk (hst7.out.step hw1 hk1)
    clear hw1 hk1 hc0 hc1 hc2 hc3 hc4 hc5 hc6 hc7 hst7
    obtain ⟨hc0, hc1, hc2, hc3, hc4, hc5, hc6, hc7⟩ := rc_facts hst8.out.box
    have hst : Hd (St w V1 B (.cells #[.int .i64 lsn, .int .i64 epoch, .int .i64 kind, .int .i64 page, .int .i64 other, .int .i64 req, .string key, .string value] 46 (0, 0)) (recL (⟨lsn, epoch, kind, page, other, req, key, value⟩ : Rc))) := ⟨by have := hst8.out; simpa [recL, textB] using this⟩
    clear hst8 hc0 hc1 hc2 hc3 hc4 hc5 hc6 hc7
    have hlen : Hd ((recL (⟨lsn, epoch, kind, page, other, req, key, value⟩ : Rc)).length ≤ 309) := ⟨F.out.len⟩
    have hfl := Hd.mk (frameB_len (⟨lsn, epoch, kind, page, other, req, key, value⟩ : Rc))
    obtain ⟨raw, hraw⟩ : ∃ raw, recL (⟨lsn, epoch, kind, page, other, req, key, value⟩ : Rc) = raw := ⟨_, rfl⟩
    rw [hraw] at hst hlen hfl
    have hraw := Hd.mk hraw
    go_wp2_with fail
    refine (wnew_any _).mono ?_
    rintro e V2 ⟨rfl, hwr2, hk2⟩
    obtain ⟨B2, hB2⟩ : ∃ B2, V1.heap.size = B2 := ⟨_, rfl⟩
    rw [hB2] at hwr2 ⊢
    have hwr1 := Hd.mk (hst.out.wr.ext hk2)
    have hlt2 : Hd (w.heap.size ≤ B2 ∧ B < B2) := ⟨by
      have h1 := hst.out.ext.size
      obtain ⟨A, c, hb, _⟩ := hst.out.wr.row
      have h2 := (Array.getElem?_eq_some_iff.1 hb).1
      omega⟩
    have hE2 := Hd.mk (hst.out.ext.then' hk2)
    have hwr2 := Hd.mk hwr2
    clear hk2 hst hB2
    go_wp2_with fail
    refine (wbytes_any B B raw V2 hwr1.out (by have := hlen.out; omega)).mono ?_
    rintro e V3 ⟨A3, c3, rfl, ho3, hk3⟩
    have hcv := conv8 ho3.sl
    have hE3 := Hd.mk (hE2.out.then' hk3)
    have hwr3 := Hd.mk (hwr2.out.ext hk3)
    clear ho3 hk3 hwr1 hwr2 hE2
    have hsz : Hd ((bsStr raw).size = raw.length) := ⟨bsStr_size raw⟩
    have htl : Hd ((bsStr raw).toList = raw) := ⟨bsStr_toList raw⟩
    obtain ⟨S, hS⟩ : ∃ S, bsStr raw = S := ⟨_, rfl⟩
    rw [hS] at hcv hsz htl
    have hS := Hd.mk hS
    go_wp2_with fail
    refine (wtext_ok B2 B2 [] S (by have := hsz.out; have := hlen.out; omega) V3 hwr3.out (by simp)).mono ?_
    rintro e V4 ⟨rfl, hw4, hk4⟩
    have hE4 : Hd (Ext w V4) := ⟨hE3.out.trans hk4 (fun k hk hb => by have := hlt2.out; omega)⟩
    have hw4 : Hd (Wr B2 V4 B2 (textB S)) := ⟨by simpa [textB] using hw4⟩
    have htlen := Hd.mk (textB_len S)
    clear hk4 hE3 hwr3 hcv
    go_wp2_with fail
    refine (wbytes_any B2 B2 (textB S) V4 hw4.out (by have := htlen.out; have := hsz.out; have := hlen.out; omega)).mono ?_
    rintro e V5 ⟨A5, c5, rfl, ho5, hk5⟩
    have hE5 := Hd.mk (hE4.out.then' hk5)
    have ho5 := Hd.mk ho5
    obtain ⟨L, hL⟩ : ∃ L, (textB S).length = L := ⟨_, rfl⟩
    rw [hL] at ho5 ⊢
    have hL := Hd.mk hL
    go_wp2_with fail
    refine (seal_any A5 L c5 (textB S) V5 ho5.out.sl (by have := hL.out; have := htlen.out; have := hsz.out; have := hlen.out; omega)).mono ?_
    rintro e V6 ⟨A6, c6, rfl, ho6, hk6⟩
    have hE6 := Hd.mk (hE5.out.then' hk6)
    have ho6 := Hd.mk ho6
    go_wp2_with fail
    have hfr : frameB (⟨lsn, epoch, kind, page, other, req, key, value⟩ : Rc) = sealB (textB S) := by rw [frameB, hraw.out, hS.out]
    refine hR.out _ _ ⟨hE6.out, fun _ => ⟨A6, c6, by rw [hfr]; rfl, ?_⟩, fun h => (by rw [hok.out] at h; cases h)⟩
    rw [hfr]
    exact ho6.out.lower hE5.out.size

set_option maxRecDepth 100000 in
set_option maxHeartbeats 4000000 in
theorem refrencode_any (r : Rc) (hr : RcS r) (w : World) : Calls Try.prog 36 #[rcV r] w (RetFr w r) := by
  refine hide_post fun R hR => ?_
  have hr := Hd.mk hr
  obtain ⟨lsn, epoch, kind, page, other, req, key, value⟩ := r
  simp only [rcV]
  cases hok : okR ⟨lsn, epoch, kind, page, other, req, key, value⟩ with
  | false =>
    have hok := Hd.mk hok
    go_enter Try.func36, Try.ntmps36
    go_wp2_with fail
    obtain ⟨W, hW⟩ : ∃ W, w.alloc (.cells #[.int .i64 lsn, .int .i64 epoch, .int .i64 kind, .int .i64 page, .int .i64 other, .int .i64 req, .string key, .string value] 46) = W := ⟨_, rfl⟩
    have hcur := Hd.mk (Rx.first (⟨lsn, epoch, kind, page, other, req, key, value⟩ : Rc) hW)
    rw [hW]
    clear hW
    refine (rright_any (⟨lsn, epoch, kind, page, other, req, key, value⟩ : Rc) hr.out W).mono ?_
    rintro e W2 ⟨rfl, hk⟩
    have hK := Hd.mk (hcur.out.ext.then' hk)
    rw [hok.out]
    go_wp2_with fail
    exact hR.out _ _ ⟨hK.out, fun h => (by rw [hok.out] at h; cases h), fun _ => rfl⟩
  | true =>
    have F := Hd.mk (okR_fit hok)
    have hok := Hd.mk hok
    go_enter Try.func36, Try.ntmps36
    go_wp2_with fail
    obtain ⟨W, hW⟩ : ∃ W, w.alloc (.cells #[.int .i64 lsn, .int .i64 epoch, .int .i64 kind, .int .i64 page, .int .i64 other, .int .i64 req, .string key, .string value] 46) = W := ⟨_, rfl⟩
    have hcur := Hd.mk (Rx.first (⟨lsn, epoch, kind, page, other, req, key, value⟩ : Rc) hW)
    rw [hW]
    clear hW
    refine (rright_any (⟨lsn, epoch, kind, page, other, req, key, value⟩ : Rc) hr.out W).mono ?_
    rintro e W2 ⟨rfl, hk⟩
    rw [hok.out]
    have hcur2 := Hd.mk (hcur.out.go hk)
    clear hcur hk
    obtain ⟨B, hB⟩ : ∃ B, W2.heap.size = B := ⟨_, rfl⟩
    have hst0 : Hd (Sb w W2 B (.cells #[.int .i64 lsn, .int .i64 epoch, .int .i64 kind, .int .i64 page, .int .i64 other, .int .i64 req, .string key, .string value] 46 (0, 0)) none 0 0 []) := ⟨⟨hcur2.out.ext, hcur2.out.box, Own.nil_ _ _ _ _ _, by have := (Array.getElem?_eq_some_iff.1 hcur2.out.box).1; omega, by omega⟩⟩
    have hBB := Hd.mk hB
    clear hcur2 hB
    have F0 := F.out.lsn1
    have F1 := F.out.lsn
    have F2 := F.out.epoch0
    have F3 := F.out.epoch
    have F4 := F.out.kind0
    have F5 := F.out.kind
    have F6 := F.out.page0
    have F7 := F.out.page
    have F8 := F.out.other0
    have F9 := F.out.other
    have F10 := F.out.req0
    have F11 := F.out.req
    have F12 := F.out.key
    have F13 := F.out.value
    (try simp only at F0 F1 F2 F3 F4 F5 F6 F7 F8 F9 F10 F11 F12 F13)
    obtain ⟨hc0, hc1, hc2, hc3, hc4, hc5, hc6, hc7⟩ := rc_facts hst0.out.box
    go_wp2_with fail
    refine (refnum_any lsn 8 (by omega) (by omega) (by omega) _).mono ?_
    rintro e V1 ⟨A2, c2, rfl, ho2, hk2⟩
    rw [leB_len] at ho2 ⊢
    have ho2 := Hd.mk ho2
    have hk2 := Hd.mk hk2
    go_wp2_with (at_builtin; refine wp_app Try.E8 rfl _ _ rfl rfl (hst0.out.own.ext hk2.out) rfl ho2.out.sl ?e0a ?e0b ?e0c ?_)
    case e0a => omega
    case e0b => omega
    case e0c => exact Nat.le_trans hst0.out.ge hk2.out.size
    intro A1 c1 V2 ho1 hk1 _
    have hst1 := Hd.mk (hst0.out.app hk2.out ho1 hk1)
    clear ho1 hk1 ho2 hk2 hc0 hc1 hc2 hc3 hc4 hc5 hc6 hc7
    obtain ⟨hc0, hc1, hc2, hc3, hc4, hc5, hc6, hc7⟩ := rc_facts hst1.out.box
    go_wp2_with fail
    refine (refnum_any epoch 8 (by omega) F2 (by omega) _).mono ?_
    rintro e V1 ⟨A2, c2, rfl, ho2, hk2⟩
    rw [leB_len] at ho2 ⊢
    have ho2 := Hd.mk ho2
    have hk2 := Hd.mk hk2
    go_wp2_with (at_builtin; refine wp_app Try.E8 rfl _ _ rfl rfl (hst1.out.own.ext hk2.out) rfl ho2.out.sl ?e1a ?e1b ?e1c ?_)
    case e1a => omega
    case e1b => omega
    case e1c => exact Nat.le_trans hst1.out.ge hk2.out.size
    intro A1 c1 V2 ho1 hk1 _
    have hst2 := Hd.mk (hst1.out.app hk2.out ho1 hk1)
    clear ho1 hk1 ho2 hk2 hc0 hc1 hc2 hc3 hc4 hc5 hc6 hc7
    obtain ⟨hc0, hc1, hc2, hc3, hc4, hc5, hc6, hc7⟩ := rc_facts hst2.out.box
    go_wp2_with fail
    refine (refnum_any kind 1 (by omega) F4 (by omega) _).mono ?_
    rintro e V1 ⟨A2, c2, rfl, ho2, hk2⟩
    rw [leB_len] at ho2 ⊢
    have ho2 := Hd.mk ho2
    have hk2 := Hd.mk hk2
    go_wp2_with (at_builtin; refine wp_app Try.E8 rfl _ _ rfl rfl (hst2.out.own.ext hk2.out) rfl ho2.out.sl ?e2a ?e2b ?e2c ?_)
    case e2a => omega
    case e2b => omega
    case e2c => exact Nat.le_trans hst2.out.ge hk2.out.size
    intro A1 c1 V2 ho1 hk1 _
    have hst3 := Hd.mk (hst2.out.app hk2.out ho1 hk1)
    clear ho1 hk1 ho2 hk2 hc0 hc1 hc2 hc3 hc4 hc5 hc6 hc7
    obtain ⟨hc0, hc1, hc2, hc3, hc4, hc5, hc6, hc7⟩ := rc_facts hst3.out.box
    go_wp2_with fail
    refine (refnum_any page 4 (by omega) F6 (by omega) _).mono ?_
    rintro e V1 ⟨A2, c2, rfl, ho2, hk2⟩
    rw [leB_len] at ho2 ⊢
    have ho2 := Hd.mk ho2
    have hk2 := Hd.mk hk2
    go_wp2_with (at_builtin; refine wp_app Try.E8 rfl _ _ rfl rfl (hst3.out.own.ext hk2.out) rfl ho2.out.sl ?e3a ?e3b ?e3c ?_)
    case e3a => omega
    case e3b => omega
    case e3c => exact Nat.le_trans hst3.out.ge hk2.out.size
    intro A1 c1 V2 ho1 hk1 _
    have hst4 := Hd.mk (hst3.out.app hk2.out ho1 hk1)
    clear ho1 hk1 ho2 hk2 hc0 hc1 hc2 hc3 hc4 hc5 hc6 hc7
    obtain ⟨hc0, hc1, hc2, hc3, hc4, hc5, hc6, hc7⟩ := rc_facts hst4.out.box
    go_wp2_with fail
    refine (refnum_any other 4 (by omega) F8 (by omega) _).mono ?_
    rintro e V1 ⟨A2, c2, rfl, ho2, hk2⟩
    rw [leB_len] at ho2 ⊢
    have ho2 := Hd.mk ho2
    have hk2 := Hd.mk hk2
    go_wp2_with (at_builtin; refine wp_app Try.E8 rfl _ _ rfl rfl (hst4.out.own.ext hk2.out) rfl ho2.out.sl ?e4a ?e4b ?e4c ?_)
    case e4a => omega
    case e4b => omega
    case e4c => exact Nat.le_trans hst4.out.ge hk2.out.size
    intro A1 c1 V2 ho1 hk1 _
    have hst5 := Hd.mk (hst4.out.app hk2.out ho1 hk1)
    clear ho1 hk1 ho2 hk2 hc0 hc1 hc2 hc3 hc4 hc5 hc6 hc7
    obtain ⟨hc0, hc1, hc2, hc3, hc4, hc5, hc6, hc7⟩ := rc_facts hst5.out.box
    go_wp2_with fail
    refine (refnum_any req 8 (by omega) F10 (by omega) _).mono ?_
    rintro e V1 ⟨A2, c2, rfl, ho2, hk2⟩
    rw [leB_len] at ho2 ⊢
    have ho2 := Hd.mk ho2
    have hk2 := Hd.mk hk2
    go_wp2_with (at_builtin; refine wp_app Try.E8 rfl _ _ rfl rfl (hst5.out.own.ext hk2.out) rfl ho2.out.sl ?e5a ?e5b ?e5c ?_)
    case e5a => omega
    case e5b => omega
    case e5c => exact Nat.le_trans hst5.out.ge hk2.out.size
    intro A1 c1 V2 ho1 hk1 _
    have hst6 := Hd.mk (hst5.out.app hk2.out ho1 hk1)
    clear ho1 hk1 ho2 hk2 hc0 hc1 hc2 hc3 hc4 hc5 hc6 hc7
    obtain ⟨hc0, hc1, hc2, hc3, hc4, hc5, hc6, hc7⟩ := rc_facts hst6.out.box
    have hz6 := Hd.mk (textB_len key)
    go_wp2_with fail
    refine (reftext_any key (by omega) _).mono ?_
    rintro e V1 ⟨A2, c2, rfl, ho2, hk2⟩
    rw [hz6.out] at ho2 ⊢
    have ho2 := Hd.mk ho2
    have hk2 := Hd.mk hk2
    go_wp2_with (at_builtin; refine wp_app Try.E8 rfl _ _ rfl rfl (hst6.out.own.ext hk2.out) rfl ho2.out.sl ?e6a ?e6b ?e6c ?_)
    case e6a => omega
    case e6b => omega
    case e6c => exact Nat.le_trans hst6.out.ge hk2.out.size
    intro A1 c1 V2 ho1 hk1 _
    have hst7 := Hd.mk (hst6.out.app hk2.out ho1 hk1)
    clear ho1 hk1 ho2 hk2 hc0 hc1 hc2 hc3 hc4 hc5 hc6 hc7
    obtain ⟨hc0, hc1, hc2, hc3, hc4, hc5, hc6, hc7⟩ := rc_facts hst7.out.box
    have hz7 := Hd.mk (textB_len value)
    go_wp2_with fail
    refine (reftext_any value (by omega) _).mono ?_
    rintro e V1 ⟨A2, c2, rfl, ho2, hk2⟩
    rw [hz7.out] at ho2 ⊢
    have ho2 := Hd.mk ho2
    have hk2 := Hd.mk hk2
    go_wp2_with (at_builtin; refine wp_app Try.E8 rfl _ _ rfl rfl (hst7.out.own.ext hk2.out) rfl ho2.out.sl ?e7a ?e7b ?e7c ?_)
    case e7a => omega
    case e7b => omega
    case e7c => exact Nat.le_trans hst7.out.ge hk2.out.size
    intro A1 c1 V2 ho1 hk1 _
    have hst8 := Hd.mk (hst7.out.app hk2.out ho1 hk1)
    clear ho1 hk1 ho2 hk2 hc0 hc1 hc2 hc3 hc4 hc5 hc6 hc7
    obtain ⟨hc0, hc1, hc2, hc3, hc4, hc5, hc6, hc7⟩ := rc_facts hst8.out.box
    have hown : Hd (Own enc8 1 5 B V2 A1 _ c1 (recL (⟨lsn, epoch, kind, page, other, req, key, value⟩ : Rc))) := ⟨hst8.out.own⟩
    have hE := Hd.mk hst8.out.ext
    have hlen : Hd ((recL (⟨lsn, epoch, kind, page, other, req, key, value⟩ : Rc)).length ≤ 309) := ⟨F.out.len⟩
    obtain ⟨raw, hr2⟩ : ∃ raw, recL (⟨lsn, epoch, kind, page, other, req, key, value⟩ : Rc) = raw := ⟨_, rfl⟩
    rw [hr2] at hown hlen
    have hraw := Hd.mk hr2
    clear hr2 hst0 hst1 hst2 hst3 hst4 hst5 hst6 hst7 hst8 hc0 hc1 hc2 hc3 hc4 hc5 hc6 hc7
    have hcv := conv8 hown.out.sl
    have hsz : Hd ((bsStr raw).size = raw.length) := ⟨bsStr_size raw⟩
    obtain ⟨S, hS⟩ : ∃ S, bsStr raw = S := ⟨_, rfl⟩
    rw [hS] at hcv hsz
    have hS := Hd.mk hS
    go_wp2_with fail
    refine (reftext_any S (by have := hsz.out; have := hlen.out; omega) _).mono ?_
    rintro e V5 ⟨A5, c5, rfl, ho5, hk5⟩
    have hE5 := Hd.mk (hE.out.then' hk5)
    have ho5 := Hd.mk ho5
    have htlen := Hd.mk (textB_len S)
    obtain ⟨L, hL⟩ : ∃ L, (textB S).length = L := ⟨_, rfl⟩
    rw [hL] at ho5 ⊢
    have hL := Hd.mk hL
    go_wp2_with fail
    refine (refseal_any A5 L c5 (textB S) V5 ho5.out.sl (by have := hL.out; have := htlen.out; have := hsz.out; have := hlen.out; omega)).mono ?_
    rintro e V6 ⟨A6, c6, rfl, ho6, hk6⟩
    have hE6 := Hd.mk (hE5.out.then' hk6)
    have ho6 := Hd.mk ho6
    go_wp2_with fail
    have hfr : frameB (⟨lsn, epoch, kind, page, other, req, key, value⟩ : Rc) = sealB (textB S) := by rw [frameB, hraw.out, hS.out]
    refine hR.out _ _ ⟨hE6.out, fun _ => ⟨A6, c6, by rw [hfr]; rfl, ?_⟩, fun h => (by rw [hok.out] at h; cases h)⟩
    rw [hfr]
    exact ho6.out.lower hE5.out.size
end Go.Proofs.Ythpfkdaijiaalaa
