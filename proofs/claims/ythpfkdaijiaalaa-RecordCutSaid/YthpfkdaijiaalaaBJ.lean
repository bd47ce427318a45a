/- The record's statements: encoded, decoded. -/
import Derived.Test.YthpfkdaijiaalaaBI
import Derived.Deep.RegionHeld3
namespace Go.Proofs.Ythpfkdaijiaalaa
open Go.RowKit

set_option maxRecDepth 100000 in
set_option maxHeartbeats 4000000 in
theorem lawREncodes (r : Rc) (hr : RcS r) (w : World) : Calls Try.prog 9 #[rcV r] w fun e w' => e = .returned (.bool true) ∧ Ext w w' := by
  refine hide_post fun R hR => ?_
  have hr := Hd.mk hr
  obtain ⟨lsn, epoch, kind, page, other, req, key, value⟩ := r
  simp only [rcV]
  obtain ⟨x, hx⟩ : ∃ x, ckR ⟨lsn, epoch, kind, page, other, req, key, value⟩ = x := ⟨_, rfl⟩
  have hx := Hd.mk hx
  go_enter Try.func9, Try.ntmps9
  go_wp2_with fail
  obtain ⟨W, hW⟩ : ∃ W, w.alloc (.cells #[.int .i64 lsn, .int .i64 epoch, .int .i64 kind, .int .i64 page, .int .i64 other, .int .i64 req, .string key, .string value] 46) = W := ⟨_, rfl⟩
  have hcur := Hd.mk (Rx.first (⟨lsn, epoch, kind, page, other, req, key, value⟩ : Rc) hW)
  rw [hW]
  clear hW
  obtain ⟨g, hg⟩ : ∃ g, w.heap.size = g := ⟨_, rfl⟩
  rw [hg] at hcur ⊢
  clear hg
  refine (rencode_any (⟨lsn, epoch, kind, page, other, req, key, value⟩ : Rc) hr.out W).mono ?_
  rintro e w1 ⟨hk, hy, hn⟩
  have hcur1 := Hd.mk (hcur.out.go hk)
  clear hcur hk
  obtain ⟨hc0, hc1, hc2, hc3, hc4, hc5, hc6, hc7⟩ := rc_facts hcur1.out.box
  cases hok : okR ⟨lsn, epoch, kind, page, other, req, key, value⟩ with
  | true =>
    obtain ⟨A3, c3, rfl, ho⟩ := hy hok
    have ho := Hd.mk ho
    clear hy hn
    have hok := Hd.mk hok
    obtain ⟨N, hN⟩ : ∃ N, (frameB ⟨lsn, epoch, kind, page, other, req, key, value⟩).length = N := ⟨_, rfl⟩
    rw [hN] at ho ⊢
    go_wp2_with fail
    refine (refrencode_any (⟨lsn, epoch, kind, page, other, req, key, value⟩ : Rc) hr.out w1).mono ?_
    rintro e w2 ⟨hk, hy, -⟩
    obtain ⟨A4, c4, rfl, ho4⟩ := hy hok.out
    rw [hN] at ho4 ⊢
    have hcur := Hd.mk (hcur1.out.go hk)
    have hs1 := Hd.mk (ho.out.ext hk).sl
    have hs2 := Hd.mk ho4.sl
    clear hcur1 hk hy hc0 hc1 hc2 hc3 hc4 hc5 hc6 hc7 ho ho4 hN
    obtain ⟨S, hS⟩ : ∃ S, Hd (bsStr (frameB ⟨lsn, epoch, kind, page, other, req, key, value⟩) = S) := ⟨_, ⟨rfl⟩⟩
    have hcvA : Hd (∀ w', Ext w2 w' → (convert 31 9 (.slice A3 N c3)).run Try.prog w' = .ok (.string S) w') := ⟨fun w' h => by have := conv8 (hs1.out.ext h); rwa [hS.out] at this⟩
    have hcvB : Hd (∀ w', Ext w2 w' → (convert 31 9 (.slice A4 N c4)).run Try.prog w' = .ok (.string S) w') := ⟨fun w' h => by have := conv8 (hs2.out.ext h); rwa [hS.out] at this⟩
    go_upto_region 3 with fail
    obtain ⟨hc0, hc1, hc2, hc3, hc4, hc5, hc6, hc7⟩ := rc_facts hcur.out.box
    have hE2 : Hd (Ext w2 w2) := ⟨ext_refl w2⟩
    have hcv1 := hcvA.out _ hE2.out
    have hcv2 := hcvB.out _ hE2.out
    have hcw1 := hcvA.out _ (ext_refl w2).drew
    have hcw2 := hcvB.out _ (ext_refl w2).drew
    obtain ⟨he0, he1, he2, he3, he4, he5, he6, he7⟩ := rc_facts (show w2.drew.heap[g]? = _ from hcur.out.box)
    go_region_held3 (fun w' => (w'.cell? ⟨g, 0, none⟩ = some (.int .i64 lsn) ∧ w'.cell? ⟨g, 1, none⟩ = some (.int .i64 epoch) ∧ w'.cell? ⟨g, 2, none⟩ = some (.int .i64 kind) ∧ w'.cell? ⟨g, 3, none⟩ = some (.int .i64 page) ∧ w'.cell? ⟨g, 4, none⟩ = some (.int .i64 other) ∧ w'.cell? ⟨g, 5, none⟩ = some (.int .i64 req) ∧ w'.cell? ⟨g, 6, none⟩ = some (.string key) ∧ w'.cell? ⟨g, 7, none⟩ = some (.string value)) ∧
        (convert 31 9 (.slice A3 N c3)).run Try.prog w' = .ok (.string S) w' ∧ (convert 31 9 (.slice A4 N c4)).run Try.prog w' = .ok (.string S) w')
      (first | with_reducible exact ⟨⟨hc0, hc1, hc2, hc3, hc4, hc5, hc6, hc7⟩, hcv1, hcv2⟩ | with_reducible exact ⟨⟨he0, he1, he2, he3, he4, he5, he6, he7⟩, hcw1, hcw2⟩ | fail) (first
        | (go_at_call 37; refine (rcheck_any (⟨lsn, epoch, kind, page, other, req, key, value⟩ : Rc) hr.out _).mono ?_; rintro e w' ⟨rfl, hk⟩; rw [hx.out]; (first | (have hcurq := Hd.mk (hcur.out.go hk)) | (have hcurq := Hd.mk (hcur.out.go (show Ext _ _ from ((ext_refl _).drew).ext hk)))); (first | (have hEq := Hd.mk (hE2.out.ext hk)) | (have hEq := Hd.mk ((hE2.out.drew).ext hk))); clear hk hcur hE2 hc0 hc1 hc2 hc3 hc4 hc5 hc6 hc7 hcv1 hcv2; have hcur := hcurq; have hE2 := hEq; clear hcurq hEq; have hcv1 := hcvA.out _ hE2.out; have hcv2 := hcvB.out _ hE2.out; obtain ⟨hc0, hc1, hc2, hc3, hc4, hc5, hc6, hc7⟩ := rc_facts hcur.out.box)
        | (go_at_call 38; go_must (refine (refck_any (⟨lsn, epoch, kind, page, other, req, key, value⟩ : Rc) hr.out _).mono ?_; rintro e w' ⟨rfl, hk⟩; rw [hx.out]; (first | (have hcurq := Hd.mk (hcur.out.go hk)) | (have hcurq := Hd.mk (hcur.out.go (show Ext _ _ from ((ext_refl _).drew).ext hk)))); (first | (have hEq := Hd.mk (hE2.out.ext hk)) | (have hEq := Hd.mk ((hE2.out.drew).ext hk))); clear hk hcur hE2 hc0 hc1 hc2 hc3 hc4 hc5 hc6 hc7 hcv1 hcv2; have hcur := hcurq; have hE2 := hEq; clear hcurq hEq; have hcv1 := hcvA.out _ hE2.out; have hcv2 := hcvB.out _ hE2.out; obtain ⟨hc0, hc1, hc2, hc3, hc4, hc5, hc6, hc7⟩ := rc_facts hcur.out.box))
        | (go_at_call 39; refine (speaks9_any _).mono ?_; rintro e w' ⟨rfl, hk⟩; (first | (have hcurq := Hd.mk (hcur.out.go hk)) | (have hcurq := Hd.mk (hcur.out.go (show Ext _ _ from ((ext_refl _).drew).ext hk)))); (first | (have hEq := Hd.mk (hE2.out.ext hk)) | (have hEq := Hd.mk ((hE2.out.drew).ext hk))); clear hk hcur hE2 hc0 hc1 hc2 hc3 hc4 hc5 hc6 hc7 hcv1 hcv2; have hcur := hcurq; have hE2 := hEq; clear hcurq hEq; have hcv1 := hcvA.out _ hE2.out; have hcv2 := hcvB.out _ hE2.out; obtain ⟨hc0, hc1, hc2, hc3, hc4, hc5, hc6, hc7⟩ := rc_facts hcur.out.box))
    all_goals
      go_wp2_with fail
      first | exact hR.out _ _ ⟨rfl, hcur.out.ext⟩ | (go_ret; exact hR.out _ _ ⟨rfl, hcur.out.ext⟩)
  | false =>
    obtain rfl := hn hok
    clear hy hn
    have hok := Hd.mk hok
    go_wp2_with fail
    refine (refrencode_any (⟨lsn, epoch, kind, page, other, req, key, value⟩ : Rc) hr.out w1).mono ?_
    rintro e w2 ⟨hk, -, hn⟩
    obtain rfl := hn hok.out
    have hcur := Hd.mk (hcur1.out.go hk)
    clear hcur1 hk hn hc0 hc1 hc2 hc3 hc4 hc5 hc6 hc7
    obtain ⟨S, hS⟩ : ∃ S, Hd (bsStr [] = S) := ⟨_, ⟨rfl⟩⟩
    have hcvA : Hd (∀ w', Ext w2 w' → (convert 31 9 (.slice none 0 0)).run Try.prog w' = .ok (.string S) w') := ⟨fun w' h => by have := conv8 (SlAt.nil_ enc8 w'); rwa [hS.out] at this⟩
    have hcvB := hcvA
    go_upto_region 3 with fail
    obtain ⟨hc0, hc1, hc2, hc3, hc4, hc5, hc6, hc7⟩ := rc_facts hcur.out.box
    have hE2 : Hd (Ext w2 w2) := ⟨ext_refl w2⟩
    have hcv1 := hcvA.out _ hE2.out
    have hcv2 := hcvB.out _ hE2.out
    have hcw1 := hcvA.out _ (ext_refl w2).drew
    have hcw2 := hcvB.out _ (ext_refl w2).drew
    obtain ⟨he0, he1, he2, he3, he4, he5, he6, he7⟩ := rc_facts (show w2.drew.heap[g]? = _ from hcur.out.box)
    go_region_held3 (fun w' => (w'.cell? ⟨g, 0, none⟩ = some (.int .i64 lsn) ∧ w'.cell? ⟨g, 1, none⟩ = some (.int .i64 epoch) ∧ w'.cell? ⟨g, 2, none⟩ = some (.int .i64 kind) ∧ w'.cell? ⟨g, 3, none⟩ = some (.int .i64 page) ∧ w'.cell? ⟨g, 4, none⟩ = some (.int .i64 other) ∧ w'.cell? ⟨g, 5, none⟩ = some (.int .i64 req) ∧ w'.cell? ⟨g, 6, none⟩ = some (.string key) ∧ w'.cell? ⟨g, 7, none⟩ = some (.string value)) ∧
        (convert 31 9 (.slice none 0 0)).run Try.prog w' = .ok (.string S) w' ∧ (convert 31 9 (.slice none 0 0)).run Try.prog w' = .ok (.string S) w')
      (first | with_reducible exact ⟨⟨hc0, hc1, hc2, hc3, hc4, hc5, hc6, hc7⟩, hcv1, hcv2⟩ | with_reducible exact ⟨⟨he0, he1, he2, he3, he4, he5, he6, he7⟩, hcw1, hcw2⟩ | fail) (first
        | (go_at_call 37; refine (rcheck_any (⟨lsn, epoch, kind, page, other, req, key, value⟩ : Rc) hr.out _).mono ?_; rintro e w' ⟨rfl, hk⟩; rw [hx.out]; (first | (have hcurq := Hd.mk (hcur.out.go hk)) | (have hcurq := Hd.mk (hcur.out.go (show Ext _ _ from ((ext_refl _).drew).ext hk)))); (first | (have hEq := Hd.mk (hE2.out.ext hk)) | (have hEq := Hd.mk ((hE2.out.drew).ext hk))); clear hk hcur hE2 hc0 hc1 hc2 hc3 hc4 hc5 hc6 hc7 hcv1 hcv2; have hcur := hcurq; have hE2 := hEq; clear hcurq hEq; have hcv1 := hcvA.out _ hE2.out; have hcv2 := hcvB.out _ hE2.out; obtain ⟨hc0, hc1, hc2, hc3, hc4, hc5, hc6, hc7⟩ := rc_facts hcur.out.box)
        | (go_at_call 38; go_must (refine (refck_any (⟨lsn, epoch, kind, page, other, req, key, value⟩ : Rc) hr.out _).mono ?_; rintro e w' ⟨rfl, hk⟩; rw [hx.out]; (first | (have hcurq := Hd.mk (hcur.out.go hk)) | (have hcurq := Hd.mk (hcur.out.go (show Ext _ _ from ((ext_refl _).drew).ext hk)))); (first | (have hEq := Hd.mk (hE2.out.ext hk)) | (have hEq := Hd.mk ((hE2.out.drew).ext hk))); clear hk hcur hE2 hc0 hc1 hc2 hc3 hc4 hc5 hc6 hc7 hcv1 hcv2; have hcur := hcurq; have hE2 := hEq; clear hcurq hEq; have hcv1 := hcvA.out _ hE2.out; have hcv2 := hcvB.out _ hE2.out; obtain ⟨hc0, hc1, hc2, hc3, hc4, hc5, hc6, hc7⟩ := rc_facts hcur.out.box))
        | (go_at_call 39; refine (speaks9_any _).mono ?_; rintro e w' ⟨rfl, hk⟩; (first | (have hcurq := Hd.mk (hcur.out.go hk)) | (have hcurq := Hd.mk (hcur.out.go (show Ext _ _ from ((ext_refl _).drew).ext hk)))); (first | (have hEq := Hd.mk (hE2.out.ext hk)) | (have hEq := Hd.mk ((hE2.out.drew).ext hk))); clear hk hcur hE2 hc0 hc1 hc2 hc3 hc4 hc5 hc6 hc7 hcv1 hcv2; have hcur := hcurq; have hE2 := hEq; clear hcurq hEq; have hcv1 := hcvA.out _ hE2.out; have hcv2 := hcvB.out _ hE2.out; obtain ⟨hc0, hc1, hc2, hc3, hc4, hc5, hc6, hc7⟩ := rc_facts hcur.out.box))
    all_goals
      go_wp2_with fail
      first | exact hR.out _ _ ⟨rfl, hcur.out.ext⟩ | (go_ret; exact hR.out _ _ ⟨rfl, hcur.out.ext⟩)
set_option maxRecDepth 100000 in
set_option maxHeartbeats 4000000 in
theorem lawRDecodes (A : Option Addr) (n c : Nat) (b : List UInt8) (w : World) (hs : SlAt enc8 w A n c b) (hn : n ≤ 140737488355328) :
    Calls Try.prog 10 #[.slice A n c] w fun e w' => e = .returned (.bool true) ∧ Ext w w' := by
  refine hide_post fun R hR => ?_
  have HS := Hd.mk hs; clear hs
  have HN := Hd.mk hn; clear hn
  go_enter Try.func10, Try.ntmps10
  go_wp2_with fail
  refine (rdecode_any A n c b w HS.out HN.out).mono ?_
  rintro e w1 ⟨rfl, hk⟩
  have hk1 := Hd.mk hk
  clear hk
  obtain ⟨r, hr⟩ : ∃ r, (decRec b).1 = r := ⟨_, rfl⟩
  obtain ⟨x, hx⟩ : ∃ x, (decRec b).2.1 = x := ⟨_, rfl⟩
  obtain ⟨z, hz⟩ : ∃ z, (decRec b).2.2 = z := ⟨_, rfl⟩
  rw [hr, hx, hz]
  have hr := Hd.mk hr
  have hx := Hd.mk hx
  have hz := Hd.mk hz
  obtain ⟨lsn, epoch, kind, page, other, req, key, value⟩ := r
  simp only [rcV]
  go_upto_region 2 with fail
  obtain ⟨W, hW⟩ : ∃ W, w1.alloc (.cells #[.int .i64 lsn, .int .i64 epoch, .int .i64 kind, .int .i64 page, .int .i64 other, .int .i64 req, .string key, .string value] 46) = W := ⟨_, rfl⟩
  have hcur := Hd.mk (Rx.first (⟨lsn, epoch, kind, page, other, req, key, value⟩ : Rc) hW)
  rw [hW]
  clear hW
  obtain ⟨g, hg⟩ : ∃ g, w1.heap.size = g := ⟨_, rfl⟩
  rw [hg] at hcur ⊢
  clear hg
  go_wp2_with fail
  refine (refrdecode_any A n c b W (HS.out.ext (hk1.out.then' hcur.out.ext)) HN.out).mono ?_
  rintro e w2 ⟨rfl, hk⟩
  rw [hr.out, hx.out, hz.out]
  have hcur2 := Hd.mk (hcur.out.go hk)
  clear hk hcur
  simp only [rcV]
  go_upto_region 3 with fail
  obtain ⟨W2, hW⟩ : ∃ W, w2.alloc (.cells #[.int .i64 lsn, .int .i64 epoch, .int .i64 kind, .int .i64 page, .int .i64 other, .int .i64 req, .string key, .string value] 46) = W := ⟨_, rfl⟩
  have hcm := Hd.mk (Rx.first (⟨lsn, epoch, kind, page, other, req, key, value⟩ : Rc) hW)
  rw [hW]
  clear hW
  obtain ⟨g', hg⟩ : ∃ g, w2.heap.size = g := ⟨_, rfl⟩
  rw [hg] at hcm ⊢
  clear hg
  have hcur3 := Hd.mk (hcur2.out.go hcm.out.ext)
  clear hcur2
  obtain ⟨hc0, hc1, hc2, hc3, hc4, hc5, hc6, hc7⟩ := rc_facts hcur3.out.box
  obtain ⟨hd0, hd1, hd2, hd3, hd4, hd5, hd6, hd7⟩ := rc_facts hcm.out.box
  go_wp2_with fail
  refine (speaks9_any W2).mono ?_
  rintro e w5 ⟨rfl, hk⟩
  have hk5 := Hd.mk hk
  clear hk
  go_wp2_with fail
  exact hR.out _ _ ⟨rfl, (hk1.out.then' hcur3.out.ext).then' hk5.out⟩
end Go.Proofs.Ythpfkdaijiaalaa
