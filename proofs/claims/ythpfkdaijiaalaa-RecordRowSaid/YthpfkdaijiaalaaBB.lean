/- Whether a record is right: by the code. -/
import Derived.Test.YthpfkdaijiaalaaBA
import Derived.Deep.DeepCutAuto
import Derived.Deep.CutBlock
namespace Go.Proofs.Ythpfkdaijiaalaa
open Go.RowKit

set_option maxRecDepth 100000 in
set_option maxHeartbeats 8000000 in
theorem rcheck_any (r : Rc) (hr : RcS r) (w : World) : Calls Try.prog 37 #[rcV r] w fun e w' => e = .returned (.int .i64 (ckR r)) ∧ Ext w w' := by
  refine hide_post fun R hR => ?_
  have hval := Hd.mk hr.value
  clear hr
  obtain ⟨lsn, epoch, kind, page, other, req, key, value⟩ := r
  simp only [rcV]
  go_enter Try.func37, Try.ntmps37
  go_upto_region 1 with fail
  obtain ⟨W, hW⟩ : ∃ W, w.alloc (.cells #[.int .i64 lsn, .int .i64 epoch, .int .i64 kind, .int .i64 page, .int .i64 other, .int .i64 req, .string key, .string value] 46) = W := ⟨_, rfl⟩
  have hcur := Hd.mk (Rx.first ⟨lsn, epoch, kind, page, other, req, key, value⟩ hW)
  rw [hW]
  clear hW
  obtain ⟨g, hg⟩ : ∃ g, w.heap.size = g := ⟨_, rfl⟩
  rw [hg] at hcur ⊢
  clear hg
  obtain ⟨hc0, hc1, hc2, hc3, hc4, hc5, hc6, hc7⟩ := rc_facts hcur.out.box
  generalize (Value.agg #[.int .i64 lsn, .int .i64 epoch, .int .i64 kind, .int .i64 page, .int .i64 other, .int .i64 req, .string key, .string value]) = v0
  obtain ⟨hd, hhq⟩ : ∃ b, decide (1 ≤ lsn ∧ lsn ≤ 1099511627776 ∧ 0 ≤ epoch ∧ epoch ≤ 1099511627776) = b := ⟨_, rfl⟩
  have hhd := Hd.mk hhq
  have hhK : Hd (headK ⟨lsn, epoch, kind, page, other, req, key, value⟩ = hd) := ⟨hhq⟩
  clear hhq
  go_cut [3] (fun v3 wx => v3 = .bool hd ∧ W = wx)
  case first =>
    as_aux_lemma =>
    go_wp2_with fail
    all_goals (go_meet; refine ⟨?_, rfl⟩; rw [← hhd.out]; congr 1; first | exact (decide_eq_true (by omega)).symm | exact (decide_eq_false (by omega)).symm | (rw [decide_eq_decide]; omega))
  case rest =>
    obtain ⟨rfl, rfl⟩ := hcut
    clear hhd hc0 hc1
    go_upto_block 0 with fail
    go_cut [3, 4, 29, 31, 33, 35, 37, 40] (fun v3 _ _ _ _ _ _ _ wx => ∃ (b : Bool) (V : World), v3 = .bool b ∧ V = wx ∧ Hd (b = (hd && kindB ⟨lsn, epoch, kind, page, other, req, key, value⟩)) ∧ Hd (Rx w V g ⟨lsn, epoch, kind, page, other, req, key, value⟩))
    case first =>
      by_cases hk : kind = 1 ∨ kind = 4 ∨ kind = 2 ∨ kind = 3 ∨ kind = 5 ∨ kind = 6 ∨ kind = 7
      · rcases hk with hk | hk | hk | hk | hk | hk | hk
        · as_aux_lemma =>
            subst hk
            go_wp2_with (first
                | (go_at_call 97; refine (paged_any _ _).mono ?_; rintro e w' ⟨rfl, rfl⟩)
                | (go_at_call 78; refine (keyCheck_any _ _).mono ?_; rintro e w' ⟨rfl, rfl⟩)
                | (go_at_call 99; refine (keyValue_any _ _).mono ?_; rintro e w' ⟨rfl, rfl⟩)
                | (go_at_call 98; refine (image_any value hval.out _).mono ?_; rintro e W2 ⟨rfl, hk2⟩; have hcur2 := Hd.mk (hcur.out.go hk2); clear hk2; obtain ⟨hd0, hd1, hd2, hd3, hd4, hd5, hd6, hd7⟩ := rc_facts hcur2.out.box))
            all_goals
              go_meet
              refine ⟨_, _, rfl, rfl, ⟨?_⟩, by first | exact hcur2 | exact hcur⟩
              simp only [kindB, emptyB, keyOk, valOk]
              simp [*]
        · as_aux_lemma =>
            subst hk
            go_wp2_with (first
                | (go_at_call 97; refine (paged_any _ _).mono ?_; rintro e w' ⟨rfl, rfl⟩)
                | (go_at_call 78; refine (keyCheck_any _ _).mono ?_; rintro e w' ⟨rfl, rfl⟩)
                | (go_at_call 99; refine (keyValue_any _ _).mono ?_; rintro e w' ⟨rfl, rfl⟩)
                | (go_at_call 98; refine (image_any value hval.out _).mono ?_; rintro e W2 ⟨rfl, hk2⟩; have hcur2 := Hd.mk (hcur.out.go hk2); clear hk2; obtain ⟨hd0, hd1, hd2, hd3, hd4, hd5, hd6, hd7⟩ := rc_facts hcur2.out.box))
            all_goals
              go_meet
              refine ⟨_, _, rfl, rfl, ⟨?_⟩, by first | exact hcur2 | exact hcur⟩
              simp only [kindB, emptyB, keyOk, valOk]
              simp [*]
        · as_aux_lemma =>
            subst hk
            go_wp2_with (first
                | (go_at_call 97; refine (paged_any _ _).mono ?_; rintro e w' ⟨rfl, rfl⟩)
                | (go_at_call 78; refine (keyCheck_any _ _).mono ?_; rintro e w' ⟨rfl, rfl⟩)
                | (go_at_call 99; refine (keyValue_any _ _).mono ?_; rintro e w' ⟨rfl, rfl⟩)
                | (go_at_call 98; refine (image_any value hval.out _).mono ?_; rintro e W2 ⟨rfl, hk2⟩; have hcur2 := Hd.mk (hcur.out.go hk2); clear hk2; obtain ⟨hd0, hd1, hd2, hd3, hd4, hd5, hd6, hd7⟩ := rc_facts hcur2.out.box))
            all_goals
              go_meet
              refine ⟨_, _, rfl, rfl, ⟨?_⟩, by first | exact hcur2 | exact hcur⟩
              simp only [kindB, emptyB, keyOk, valOk]
              simp [*]
        · as_aux_lemma =>
            subst hk
            go_wp2_with (first
                | (go_at_call 97; refine (paged_any _ _).mono ?_; rintro e w' ⟨rfl, rfl⟩)
                | (go_at_call 78; refine (keyCheck_any _ _).mono ?_; rintro e w' ⟨rfl, rfl⟩)
                | (go_at_call 99; refine (keyValue_any _ _).mono ?_; rintro e w' ⟨rfl, rfl⟩)
                | (go_at_call 98; refine (image_any value hval.out _).mono ?_; rintro e W2 ⟨rfl, hk2⟩; have hcur2 := Hd.mk (hcur.out.go hk2); clear hk2; obtain ⟨hd0, hd1, hd2, hd3, hd4, hd5, hd6, hd7⟩ := rc_facts hcur2.out.box))
            all_goals
              go_meet
              refine ⟨_, _, rfl, rfl, ⟨?_⟩, by first | exact hcur2 | exact hcur⟩
              simp only [kindB, emptyB, keyOk, valOk]
              simp [*]
        · as_aux_lemma =>
            subst hk
            go_wp2_with (first
                | (go_at_call 97; refine (paged_any _ _).mono ?_; rintro e w' ⟨rfl, rfl⟩)
                | (go_at_call 78; refine (keyCheck_any _ _).mono ?_; rintro e w' ⟨rfl, rfl⟩)
                | (go_at_call 99; refine (keyValue_any _ _).mono ?_; rintro e w' ⟨rfl, rfl⟩)
                | (go_at_call 98; refine (image_any value hval.out _).mono ?_; rintro e W2 ⟨rfl, hk2⟩; have hcur2 := Hd.mk (hcur.out.go hk2); clear hk2; obtain ⟨hd0, hd1, hd2, hd3, hd4, hd5, hd6, hd7⟩ := rc_facts hcur2.out.box))
            all_goals
              go_meet
              refine ⟨_, _, rfl, rfl, ⟨?_⟩, by first | exact hcur2 | exact hcur⟩
              simp only [kindB, emptyB, keyOk, valOk]
              simp [*]
        · as_aux_lemma =>
            subst hk
            go_wp2_with (first
                | (go_at_call 97; refine (paged_any _ _).mono ?_; rintro e w' ⟨rfl, rfl⟩)
                | (go_at_call 78; refine (keyCheck_any _ _).mono ?_; rintro e w' ⟨rfl, rfl⟩)
                | (go_at_call 99; refine (keyValue_any _ _).mono ?_; rintro e w' ⟨rfl, rfl⟩)
                | (go_at_call 98; refine (image_any value hval.out _).mono ?_; rintro e W2 ⟨rfl, hk2⟩; have hcur2 := Hd.mk (hcur.out.go hk2); clear hk2; obtain ⟨hd0, hd1, hd2, hd3, hd4, hd5, hd6, hd7⟩ := rc_facts hcur2.out.box))
            all_goals
              go_meet
              refine ⟨_, _, rfl, rfl, ⟨?_⟩, by first | exact hcur2 | exact hcur⟩
              simp only [kindB, emptyB, keyOk, valOk]
              simp [*]
        · as_aux_lemma =>
            subst hk
            go_wp2_with (first
                | (go_at_call 97; refine (paged_any _ _).mono ?_; rintro e w' ⟨rfl, rfl⟩)
                | (go_at_call 78; refine (keyCheck_any _ _).mono ?_; rintro e w' ⟨rfl, rfl⟩)
                | (go_at_call 99; refine (keyValue_any _ _).mono ?_; rintro e w' ⟨rfl, rfl⟩)
                | (go_at_call 98; refine (image_any value hval.out _).mono ?_; rintro e W2 ⟨rfl, hk2⟩; have hcur2 := Hd.mk (hcur.out.go hk2); clear hk2; obtain ⟨hd0, hd1, hd2, hd3, hd4, hd5, hd6, hd7⟩ := rc_facts hcur2.out.box))
            all_goals
              go_meet
              refine ⟨_, _, rfl, rfl, ⟨?_⟩, by first | exact hcur2 | exact hcur⟩
              simp only [kindB, emptyB, keyOk, valOk]
              simp [*]
      · as_aux_lemma =>
        simp only [not_or] at hk
        obtain ⟨hk1, hk4, hk2, hk3, hk5, hk6, hk7⟩ := hk
        have e1 : (kind == 1) = false := by simpa using hk1
        have e2 : (kind == 2) = false := by simpa using hk2
        have e3 : (kind == 3) = false := by simpa using hk3
        have e4 : (kind == 4) = false := by simpa using hk4
        have e5 : (kind == 5) = false := by simpa using hk5
        have e6 : (kind == 6) = false := by simpa using hk6
        have e7 : (kind == 7) = false := by simpa using hk7
        go_wp2_with fail
        all_goals
          go_meet
          refine ⟨_, _, rfl, rfl, ⟨?_⟩, hcur⟩
          simp [kindB, *]
    case rest =>
      obtain ⟨b, V, rfl, rfl, hb, hx⟩ := hcut
      clear hcur hc2 hc3 hc4 hc5 hc6 hc7
      obtain ⟨hc0, hc1, hc2, hc3, hc4, hc5, hc6, hc7⟩ := rc_facts hx.out.box
      have hbk : Hd (okR ⟨lsn, epoch, kind, page, other, req, key, value⟩ = (b && reqB ⟨lsn, epoch, kind, page, other, req, key, value⟩)) := ⟨by rw [okR, hhK.out, hb.out]⟩
      by_cases hk : kind = 7
      · as_aux_lemma =>
        subst hk
        go_wp2_with fail
        all_goals
          refine hR.out _ _ ⟨?_, hx.out.ext⟩
          simp only [ckR, hbk.out, reqB]
          first | (simp [*]; done) | (simp [*]; omega)
      · as_aux_lemma =>
        have e7 : (kind == 7) = false := by simpa using hk
        have e8 : (kind != 7) = true := by simpa using hk
        go_wp2_with fail
        all_goals
          refine hR.out _ _ ⟨?_, hx.out.ext⟩
          simp only [ckR, hbk.out, reqB]
          first | (simp [*]; done) | (have q := ‹(req != 0) = true›; rw [bne_iff_ne] at q; simp [*]; done) | (have q := ‹(req != 0) = false›; simp at q; simp [*]; done)
end Go.Proofs.Ythpfkdaijiaalaa
