/- Whether a record is right: by the reference. -/
import Derived.Test.YthpfkdaijiaalaaBA
import Derived.Deep.DeepCutAuto
namespace Go.Proofs.Ythpfkdaijiaalaa
open Go.RowKit

set_option maxRecDepth 100000 in
set_option maxHeartbeats 8000000 in
theorem rright_any (r : Rc) (hr : RcS r) (w : World) : Calls Try.prog 69 #[rcV r] w fun e w' => e = .returned (.bool (okR r)) ∧ Ext w w' := by
  refine hide_post fun R hR => ?_
  have hval := Hd.mk hr.value
  clear hr
  obtain ⟨lsn, epoch, kind, page, other, req, key, value⟩ := r
  simp only [rcV]
  go_enter Try.func69, Try.ntmps69
  go_upto_region 1 with fail
  obtain ⟨W, hW⟩ : ∃ W, w.alloc (.cells #[.int .i64 lsn, .int .i64 epoch, .int .i64 kind, .int .i64 page, .int .i64 other, .int .i64 req, .string key, .string value] 46) = W := ⟨_, rfl⟩
  have hcur := Hd.mk (Rx.first ⟨lsn, epoch, kind, page, other, req, key, value⟩ hW)
  rw [hW]
  clear hW
  obtain ⟨g, hg⟩ : ∃ g, w.heap.size = g := ⟨_, rfl⟩
  rw [hg] at hcur ⊢
  clear hg
  obtain ⟨hc0, hc1, hc2, hc3, hc4, hc5, hc6, hc7⟩ := rc_facts hcur.out.box
  generalize (Value.agg #[.int .i64 lsn, .int .i64 epoch, .int .i64 kind, .int .i64 page, .int .i64 other, .int .i64 req, .string key, .string value]) = v0
  by_cases hh : 1 ≤ lsn ∧ lsn ≤ 1099511627776 ∧ 0 ≤ epoch ∧ epoch ≤ 1099511627776
  · have hhK : Hd (headK ⟨lsn, epoch, kind, page, other, req, key, value⟩ = true) := ⟨decide_eq_true hh⟩
    have hh1 : ¬ lsn < 1 := by omega
    have hh2 : ¬ 1099511627776 < lsn := by omega
    have hh3 : ¬ epoch < 0 := by omega
    have hh4 : ¬ 1099511627776 < epoch := by omega
    clear hh
    go_upto_region 3 with fail
    clear hh1 hh2 hh3 hh4 hc0 hc1
    by_cases hk : kind = 1 ∨ kind = 4 ∨ kind = 2 ∨ kind = 3 ∨ kind = 5 ∨ kind = 6 ∨ kind = 7
    · rcases hk with hk | hk | hk | hk | hk | hk | hk
      · as_aux_lemma =>
          subst hk
          cases hq : (req != 0) with
          | true =>
            have hq0 : Hd (reqB ⟨lsn, epoch, 1, page, other, req, key, value⟩ = false) := ⟨by simp only [reqB]; rw [bne_iff_ne] at hq; simp [hq]⟩
            go_wp2_with (first
                      | (go_at_call 117; refine (refpaged_any _ _).mono ?_; rintro e w' ⟨rfl, rfl⟩)
                      | (go_at_call 115; refine (refKey_any _ _).mono ?_; rintro e w' ⟨rfl, rfl⟩)
                      | (go_at_call 116; refine (refValue_any _ _).mono ?_; rintro e w' ⟨rfl, rfl⟩))
            all_goals
              refine hR.out _ _ ⟨?_, hcur.out.ext⟩
              congr 2
              simp only [okR, hhK.out, kindB, hq0.out, emptyB, keyOk, valOk]
              simp [*]
          | false =>
            have hq0 : Hd (reqB ⟨lsn, epoch, 1, page, other, req, key, value⟩ = true) := ⟨by simp at hq; simp [reqB, hq]⟩
            go_wp2_with (first
                      | (go_at_call 117; refine (refpaged_any _ _).mono ?_; rintro e w' ⟨rfl, rfl⟩)
                      | (go_at_call 115; refine (refKey_any _ _).mono ?_; rintro e w' ⟨rfl, rfl⟩)
                      | (go_at_call 116; refine (refValue_any _ _).mono ?_; rintro e w' ⟨rfl, rfl⟩))
            all_goals
              refine hR.out _ _ ⟨?_, hcur.out.ext⟩
              congr 2
              simp only [okR, hhK.out, kindB, hq0.out, emptyB, keyOk, valOk]
              simp [*]
      · as_aux_lemma =>
          subst hk
          cases hq : (req != 0) with
          | true =>
            have hq0 : Hd (reqB ⟨lsn, epoch, 4, page, other, req, key, value⟩ = false) := ⟨by simp only [reqB]; rw [bne_iff_ne] at hq; simp [hq]⟩
            go_wp2_with (first
                      | (go_at_call 117; refine (refpaged_any _ _).mono ?_; rintro e w' ⟨rfl, rfl⟩)
                      | (go_at_call 115; refine (refKey_any _ _).mono ?_; rintro e w' ⟨rfl, rfl⟩)
                      | (go_at_call 116; refine (refValue_any _ _).mono ?_; rintro e w' ⟨rfl, rfl⟩))
            all_goals
              refine hR.out _ _ ⟨?_, hcur.out.ext⟩
              congr 2
              simp only [okR, hhK.out, kindB, hq0.out, emptyB, keyOk, valOk]
              simp [*]
          | false =>
            have hq0 : Hd (reqB ⟨lsn, epoch, 4, page, other, req, key, value⟩ = true) := ⟨by simp at hq; simp [reqB, hq]⟩
            obtain ⟨A, c, w1, hcv, hs, hkk⟩ := conv_bytes value hval.out W
            have hs := Hd.mk hs
            have hcur1 := Hd.mk (hcur.out.go hkk)
            go_upto_region 17 with (first
                    | (go_at_call 117; refine (refpaged_any _ _).mono ?_; rintro e w' ⟨rfl, rfl⟩)
                    | (go_at_call 115; refine (refKey_any _ _).mono ?_; rintro e w' ⟨rfl, rfl⟩)
                    | (go_at_call 116; refine (refValue_any _ _).mono ?_; rintro e w' ⟨rfl, rfl⟩))
            clear hkk
            go_wp2_with fail
            refine (refdecode_any A value.size c value.toList w1 hs.out (by have := hval.out; omega)).mono ?_
            rintro e w2 ⟨m, x, B4, m4, d4, B5, m5, d5, B6, m6, d6, rfl, hm, hk2, hd⟩
            have hm := Hd.mk hm
            have hcur2 := Hd.mk (hcur1.out.go hk2)
            clear hcv hk2
            obtain ⟨level, lsn', right, high, keys, vals, kids⟩ := m
            simp only [ndV]
            go_upto_region 18 with fail
            obtain ⟨W6, hW⟩ : ∃ W, w2.alloc (.cells #[.int .i64 level, .int .i64 lsn', .int .i64 right, .string high, .slice B4 m4 d4, .slice B5 m5 d5, .slice B6 m6 d6] 25) = W := ⟨_, rfl⟩
            have hnd := Hd.mk (nd_alloc hm.out hW)
            rw [hW]
            clear hW
            obtain ⟨g', hg⟩ : ∃ g, w2.heap.size = g := ⟨_, rfl⟩
            rw [hg] at hnd ⊢
            clear hg
            have hcur3 := Hd.mk (hcur2.out.go hnd.out.ext)
            clear hc2 hc3 hc4 hc5 hc6 hc7
            obtain ⟨hc0, hc1, hc2, hc3, hc4, hc5, hc6, hc7⟩ := rc_facts hcur3.out.box
            obtain ⟨he0, he1, he2, he3, he4, he5, he6⟩ := nd_facts hnd.out.box
            rcases hd with ⟨rfl, hp⟩ | ⟨rfl, hz, hno⟩
            · have hi := Hd.mk (imgB_yes hp)
              clear hp
              simp only at hi
              go_wp2_with (first
                    | (go_at_call 117; refine (refpaged_any _ _).mono ?_; rintro e w' ⟨rfl, rfl⟩)
                    | (go_at_call 115; refine (refKey_any _ _).mono ?_; rintro e w' ⟨rfl, rfl⟩)
                    | (go_at_call 116; refine (refValue_any _ _).mono ?_; rintro e w' ⟨rfl, rfl⟩))
              all_goals
                refine hR.out _ _ ⟨?_, hcur3.out.ext⟩
                congr 2
                simp only [okR, hhK.out, kindB, hq0.out, hi.out, emptyB]
                simp [*]
            · have hi := Hd.mk (imgB_no hno)
              clear hno hz
              go_wp2_with (first
                    | (go_at_call 117; refine (refpaged_any _ _).mono ?_; rintro e w' ⟨rfl, rfl⟩)
                    | (go_at_call 115; refine (refKey_any _ _).mono ?_; rintro e w' ⟨rfl, rfl⟩)
                    | (go_at_call 116; refine (refValue_any _ _).mono ?_; rintro e w' ⟨rfl, rfl⟩))
              all_goals
                refine hR.out _ _ ⟨?_, hcur3.out.ext⟩
                congr 2
                simp only [okR, hhK.out, kindB, hq0.out, hi.out, emptyB]
                simp [*]
      · as_aux_lemma =>
          subst hk
          cases hq : (req != 0) with
          | true =>
            have hq0 : Hd (reqB ⟨lsn, epoch, 2, page, other, req, key, value⟩ = false) := ⟨by simp only [reqB]; rw [bne_iff_ne] at hq; simp [hq]⟩
            go_wp2_with (first
                      | (go_at_call 117; refine (refpaged_any _ _).mono ?_; rintro e w' ⟨rfl, rfl⟩)
                      | (go_at_call 115; refine (refKey_any _ _).mono ?_; rintro e w' ⟨rfl, rfl⟩)
                      | (go_at_call 116; refine (refValue_any _ _).mono ?_; rintro e w' ⟨rfl, rfl⟩))
            all_goals
              refine hR.out _ _ ⟨?_, hcur.out.ext⟩
              congr 2
              simp only [okR, hhK.out, kindB, hq0.out, emptyB, keyOk, valOk]
              simp [*]
          | false =>
            have hq0 : Hd (reqB ⟨lsn, epoch, 2, page, other, req, key, value⟩ = true) := ⟨by simp at hq; simp [reqB, hq]⟩
            go_wp2_with (first
                      | (go_at_call 117; refine (refpaged_any _ _).mono ?_; rintro e w' ⟨rfl, rfl⟩)
                      | (go_at_call 115; refine (refKey_any _ _).mono ?_; rintro e w' ⟨rfl, rfl⟩)
                      | (go_at_call 116; refine (refValue_any _ _).mono ?_; rintro e w' ⟨rfl, rfl⟩))
            all_goals
              refine hR.out _ _ ⟨?_, hcur.out.ext⟩
              congr 2
              simp only [okR, hhK.out, kindB, hq0.out, emptyB, keyOk, valOk]
              simp [*]
      · as_aux_lemma =>
          subst hk
          cases hq : (req != 0) with
          | true =>
            have hq0 : Hd (reqB ⟨lsn, epoch, 3, page, other, req, key, value⟩ = false) := ⟨by simp only [reqB]; rw [bne_iff_ne] at hq; simp [hq]⟩
            go_wp2_with (first
                      | (go_at_call 117; refine (refpaged_any _ _).mono ?_; rintro e w' ⟨rfl, rfl⟩)
                      | (go_at_call 115; refine (refKey_any _ _).mono ?_; rintro e w' ⟨rfl, rfl⟩)
                      | (go_at_call 116; refine (refValue_any _ _).mono ?_; rintro e w' ⟨rfl, rfl⟩))
            all_goals
              refine hR.out _ _ ⟨?_, hcur.out.ext⟩
              congr 2
              simp only [okR, hhK.out, kindB, hq0.out, emptyB, keyOk, valOk]
              simp [*]
          | false =>
            have hq0 : Hd (reqB ⟨lsn, epoch, 3, page, other, req, key, value⟩ = true) := ⟨by simp at hq; simp [reqB, hq]⟩
            go_wp2_with (first
                      | (go_at_call 117; refine (refpaged_any _ _).mono ?_; rintro e w' ⟨rfl, rfl⟩)
                      | (go_at_call 115; refine (refKey_any _ _).mono ?_; rintro e w' ⟨rfl, rfl⟩)
                      | (go_at_call 116; refine (refValue_any _ _).mono ?_; rintro e w' ⟨rfl, rfl⟩))
            all_goals
              refine hR.out _ _ ⟨?_, hcur.out.ext⟩
              congr 2
              simp only [okR, hhK.out, kindB, hq0.out, emptyB, keyOk, valOk]
              simp [*]
      · as_aux_lemma =>
          subst hk
          cases hq : (req != 0) with
          | true =>
            have hq0 : Hd (reqB ⟨lsn, epoch, 5, page, other, req, key, value⟩ = false) := ⟨by simp only [reqB]; rw [bne_iff_ne] at hq; simp [hq]⟩
            go_wp2_with (first
                      | (go_at_call 117; refine (refpaged_any _ _).mono ?_; rintro e w' ⟨rfl, rfl⟩)
                      | (go_at_call 115; refine (refKey_any _ _).mono ?_; rintro e w' ⟨rfl, rfl⟩)
                      | (go_at_call 116; refine (refValue_any _ _).mono ?_; rintro e w' ⟨rfl, rfl⟩))
            all_goals
              refine hR.out _ _ ⟨?_, hcur.out.ext⟩
              congr 2
              simp only [okR, hhK.out, kindB, hq0.out, emptyB, keyOk, valOk]
              simp [*]
          | false =>
            have hq0 : Hd (reqB ⟨lsn, epoch, 5, page, other, req, key, value⟩ = true) := ⟨by simp at hq; simp [reqB, hq]⟩
            go_wp2_with (first
                      | (go_at_call 117; refine (refpaged_any _ _).mono ?_; rintro e w' ⟨rfl, rfl⟩)
                      | (go_at_call 115; refine (refKey_any _ _).mono ?_; rintro e w' ⟨rfl, rfl⟩)
                      | (go_at_call 116; refine (refValue_any _ _).mono ?_; rintro e w' ⟨rfl, rfl⟩))
            all_goals
              refine hR.out _ _ ⟨?_, hcur.out.ext⟩
              congr 2
              simp only [okR, hhK.out, kindB, hq0.out, emptyB, keyOk, valOk]
              simp [*]
      · as_aux_lemma =>
          subst hk
          cases hq : (req != 0) with
          | true =>
            have hq0 : Hd (reqB ⟨lsn, epoch, 6, page, other, req, key, value⟩ = false) := ⟨by simp only [reqB]; rw [bne_iff_ne] at hq; simp [hq]⟩
            go_wp2_with (first
                      | (go_at_call 117; refine (refpaged_any _ _).mono ?_; rintro e w' ⟨rfl, rfl⟩)
                      | (go_at_call 115; refine (refKey_any _ _).mono ?_; rintro e w' ⟨rfl, rfl⟩)
                      | (go_at_call 116; refine (refValue_any _ _).mono ?_; rintro e w' ⟨rfl, rfl⟩))
            all_goals
              refine hR.out _ _ ⟨?_, hcur.out.ext⟩
              congr 2
              simp only [okR, hhK.out, kindB, hq0.out, emptyB, keyOk, valOk]
              simp [*]
          | false =>
            have hq0 : Hd (reqB ⟨lsn, epoch, 6, page, other, req, key, value⟩ = true) := ⟨by simp at hq; simp [reqB, hq]⟩
            go_wp2_with (first
                      | (go_at_call 117; refine (refpaged_any _ _).mono ?_; rintro e w' ⟨rfl, rfl⟩)
                      | (go_at_call 115; refine (refKey_any _ _).mono ?_; rintro e w' ⟨rfl, rfl⟩)
                      | (go_at_call 116; refine (refValue_any _ _).mono ?_; rintro e w' ⟨rfl, rfl⟩))
            all_goals
              refine hR.out _ _ ⟨?_, hcur.out.ext⟩
              congr 2
              simp only [okR, hhK.out, kindB, hq0.out, emptyB, keyOk, valOk]
              simp [*]
      · as_aux_lemma =>
          subst hk
          have hev : emptyB value = true → valOk value = true := by
            intro h
            have : value.size = 0 := by rw [size_list]; simp [emptyB] at h; simp [h]
            simp [valOk, valCk, this]
          have hev : Hd (value.toList = [] → valCk value = 0) := ⟨fun h => by have := hev (by simp [emptyB, h]); simpa [valOk] using this⟩
          go_wp2_with (first
                    | (go_at_call 117; refine (refpaged_any _ _).mono ?_; rintro e w' ⟨rfl, rfl⟩)
                    | (go_at_call 115; refine (refKey_any _ _).mono ?_; rintro e w' ⟨rfl, rfl⟩)
                    | (go_at_call 116; refine (refValue_any _ _).mono ?_; rintro e w' ⟨rfl, rfl⟩))
          all_goals
            refine hR.out _ _ ⟨?_, hcur.out.ext⟩
            congr 2
            simp only [okR, hhK.out, kindB, reqB, emptyB, keyOk, valOk]
            have hev2 := hev.out
            first | (simp [*]; done) | (simp [*]; omega) | (simp [*]; intro _ h; exact absurd (hev2 h) (by assumption))
    · as_aux_lemma =>
        simp only [not_or] at hk
        obtain ⟨hk1, hk4, hk2, hk3, hk5, hk6, hk7⟩ := hk
        have e1 : (kind == 1) = false := by simpa using hk1
        have e2 : (kind == 2) = false := by simpa using hk2
        have e3 : (kind == 3) = false := by simpa using hk3
        have e4 : (kind == 4) = false := by simpa using hk4
        have e5 : (kind == 5) = false := by simpa using hk5
        have e6 : (kind == 6) = false := by simpa using hk6
        have e7 : (kind == 7) = false := by simpa using hk7
        go_wp2_with (first
          | (go_at_call 117; refine (refpaged_any _ _).mono ?_; rintro e w' ⟨rfl, rfl⟩)
          | (go_at_call 115; refine (refKey_any _ _).mono ?_; rintro e w' ⟨rfl, rfl⟩)
          | (go_at_call 116; refine (refValue_any _ _).mono ?_; rintro e w' ⟨rfl, rfl⟩))
        all_goals
          refine hR.out _ _ ⟨?_, hcur.out.ext⟩
          congr 2
          simp only [okR, hhK.out, kindB, reqB]
          simp [*]
  · have hhK : Hd (headK ⟨lsn, epoch, kind, page, other, req, key, value⟩ = false) := ⟨decide_eq_false hh⟩
    have hh' : lsn < 1 ∨ (1 ≤ lsn ∧ 1099511627776 < lsn) ∨ (1 ≤ lsn ∧ lsn ≤ 1099511627776 ∧ epoch < 0) ∨ (1 ≤ lsn ∧ lsn ≤ 1099511627776 ∧ 0 ≤ epoch ∧ 1099511627776 < epoch) := by omega
    clear hh
    rcases hh' with h1 | ⟨h1, h2⟩ | ⟨h1, h2, h3⟩ | ⟨h1, h2, h3, h4⟩
    all_goals
      go_wp2_with fail
      refine hR.out _ _ ⟨?_, hcur.out.ext⟩
      simp only [okR, hhK.out, Bool.false_and]
end Go.Proofs.Ythpfkdaijiaalaa
