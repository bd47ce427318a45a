/- The record's statements: there and back. -/
import Derived.Test.YthpfkdaijiaalaaBJ
import Derived.Test.YthpfkdaijiaalaaBL
namespace Go.Proofs.Ythpfkdaijiaalaa
open Go.RowKit

set_option maxRecDepth 100000 in
set_option maxHeartbeats 4000000 in
theorem lawRBack (r : Rc) (A : Option Addr) (k c : Nat) (b : List UInt8) (w : World) (hr : RcS r) (hs : SlAt enc8 w A k c b) (hn : k ≤ 140737488351232) :
    Calls Try.prog 11 #[rcV r, .slice A k c] w fun e w' => e = .returned (.bool true) ∧ Ext w w' := by
  refine hide_post fun R hR => ?_
  have hr := Hd.mk hr
  have HS := Hd.mk hs; clear hs
  have HM := Hd.mk hn
  have HN : Hd (k ≤ 140737488355328) := ⟨by omega⟩
  clear hn
  obtain ⟨lsn, epoch, kind, page, other, req, key, value⟩ := r
  simp only [rcV]
  go_enter Try.func11, Try.ntmps11
  go_wp2_with fail
  obtain ⟨W, hW⟩ : ∃ W, w.alloc (.cells #[.int .i64 lsn, .int .i64 epoch, .int .i64 kind, .int .i64 page, .int .i64 other, .int .i64 req, .string key, .string value] 46) = W := ⟨_, rfl⟩
  have hcur := Hd.mk (Rx.first (⟨lsn, epoch, kind, page, other, req, key, value⟩ : Rc) hW)
  rw [hW]
  clear hW
  obtain ⟨g, hg⟩ : ∃ g, w.heap.size = g := ⟨_, rfl⟩
  rw [hg] at hcur ⊢
  clear hg
  refine (rencode_any (⟨lsn, epoch, kind, page, other, req, key, value⟩ : Rc) hr.out W).mono ?_
  rintro e w1 ⟨hk, hy, hno⟩
  have hcur1 := Hd.mk (hcur.out.go hk)
  clear hcur hk
  cases hok : okR ⟨lsn, epoch, kind, page, other, req, key, value⟩ with
  | true =>
    obtain ⟨A1, c1, rfl, ho⟩ := hy hok
    clear hy hno
    have hlen : Hd ((frameB ⟨lsn, epoch, kind, page, other, req, key, value⟩).length ≤ 315) := ⟨by rw [frameB_len]; have := (okR_fit hok).len; omega⟩
    have hdec := Hd.mk (decRec_frame hok b)
    obtain ⟨N, hN⟩ : ∃ N, (frameB ⟨lsn, epoch, kind, page, other, req, key, value⟩).length = N := ⟨_, rfl⟩
    rw [hN] at ho hlen hdec ⊢
    have hN := Hd.mk hN
    have hs1 := Hd.mk ho.sl
    clear ho hok
    go_wp2_with (at_builtin; refine wp_app Try.E8 rfl _ _ rfl (B := w1.heap.size) (xs := []) rfl ⟨rfl, .inl ⟨rfl, rfl⟩⟩ rfl hs1.out ?c1 ?c2 ?c3 ?_)
    case c1 => have := hlen.out; omega
    case c2 => have := hlen.out; omega
    case c3 => omega
    intro A2 c2 w2 ho2 hk2 _
    have ho2 := Hd.mk ho2
    have hk2 : Hd (Ext w1 w2) := ⟨hk2.trans (ext_refl w2) (fun _ _ h => h.elim) |>.weaken (fun _ _ h => absurd rfl h.1)⟩
    have hK2 := Hd.mk (hcur1.out.ext.then' hk2.out)
    go_wp2_with (at_builtin; refine wp_app Try.E8 rfl _ _ rfl rfl ho2.out rfl (HS.out.ext hK2.out) ?d1 ?d2 ?d3 ?_)
    case d1 => have := hlen.out; have := HM.out; omega
    case d2 => have := hlen.out; have := HM.out; omega
    case d3 => exact hk2.out.size
    intro A3 c3 w3 ho3 hk3 _
    have hk3 : Hd (Ext w1 w3) := ⟨hk2.out.trans hk3 (fun q hq h => by have := (ho2.out.ge h).1; omega)⟩
    have hcur3 := Hd.mk (hcur1.out.go hk3.out)
    have ho3 : Hd (Own enc8 1 5 w1.heap.size w3 A3 (N + k) c3 (frameB ⟨lsn, epoch, kind, page, other, req, key, value⟩ ++ b)) := ⟨by simpa using ho3⟩
    clear hcur1 ho2 hk2 hK2 hk3 hs1
    go_wp2_with fail
    refine (rdecode_any A3 (N + k) c3 (frameB ⟨lsn, epoch, kind, page, other, req, key, value⟩ ++ b) w3 ho3.out.sl (by have := hlen.out; have := HM.out; omega)).mono ?_
    rintro e w4 ⟨rfl, hk⟩
    rw [hdec.out]
    have hcur4 := Hd.mk (hcur3.out.go hk)
    clear hk hcur3 ho3
    simp only [rcV]
    go_upto_region 7 with fail
    obtain ⟨W5, hW⟩ : ∃ W, w4.alloc (.cells #[.int .i64 lsn, .int .i64 epoch, .int .i64 kind, .int .i64 page, .int .i64 other, .int .i64 req, .string key, .string value] 46) = W := ⟨_, rfl⟩
    have hcm := Hd.mk (Rx.first (⟨lsn, epoch, kind, page, other, req, key, value⟩ : Rc) hW)
    rw [hW]
    clear hW
    obtain ⟨g', hg⟩ : ∃ g, w4.heap.size = g := ⟨_, rfl⟩
    rw [hg] at hcm ⊢
    clear hg
    have hcur5 := Hd.mk (hcur4.out.go hcm.out.ext)
    clear hcur4
    obtain ⟨hc0, hc1, hc2, hc3, hc4, hc5, hc6, hc7⟩ := rc_facts hcur5.out.box
    obtain ⟨hd0, hd1, hd2, hd3, hd4, hd5, hd6, hd7⟩ := rc_facts hcm.out.box
    have hk4 := Hd.mk hcur5.out.ext
    go_upto_region 9 with fail
    clear hc0 hc1 hc2 hc3 hc4 hc5 hc6 hc7 hd0 hd1 hd2 hd3 hd4 hd5 hd6 hd7 hcm hcur5
    go_wp2_with fail
    refine (rdecode_any A k c b W5 (HS.out.ext hk4.out) HN.out).mono ?_
    rintro e w5 ⟨rfl, hk⟩
    have hk5 := Hd.mk (hk4.out.then' hk)
    clear hk hk4
    obtain ⟨y, hy⟩ : ∃ r, (decRec b).1 = r := ⟨_, rfl⟩
    obtain ⟨m, hm⟩ : ∃ x, (decRec b).2.1 = x := ⟨_, rfl⟩
    obtain ⟨z, hz⟩ : ∃ z, (decRec b).2.2 = z := ⟨_, rfl⟩
    rw [hy, hm, hz]
    by_cases hz0 : z = 0
    · subst hz0
      have hdd : decRec b = (y, m, 0) := by rw [← hy, ← hm, ← hz]
      obtain ⟨hok, j, rfl, hjl, htk, hq1, hq2⟩ := decRec_back hdd
      clear hq1 hq2
      have F := okR_fit hok
      have hys : Hd (RcS y) := ⟨⟨by have := F.key; omega, by have := F.value; omega⟩⟩
      have hjl := Hd.mk hjl
      have htk := Hd.mk htk
      have hok := Hd.mk hok
      clear hdd hy hm hz F
      obtain ⟨ylsn, yepoch, ykind, ypage, yother, yreq, ykey, yvalue⟩ := y
      simp only [rcV]
      go_upto_region 10 with fail
      obtain ⟨W6, hW⟩ : ∃ W, w5.alloc (.cells #[.int .i64 ylsn, .int .i64 yepoch, .int .i64 ykind, .int .i64 ypage, .int .i64 yother, .int .i64 yreq, .string ykey, .string yvalue] 46) = W := ⟨_, rfl⟩
      have hcy := Hd.mk (Rx.first (⟨ylsn, yepoch, ykind, ypage, yother, yreq, ykey, yvalue⟩ : Rc) hW)
      rw [hW]
      clear hW
      obtain ⟨gy, hg⟩ : ∃ g, w5.heap.size = g := ⟨_, rfl⟩
      rw [hg] at hcy ⊢
      clear hg
      have hk6 := Hd.mk (hk5.out.then' hcy.out.ext)
      obtain ⟨hd0, hd1, hd2, hd3, hd4, hd5, hd6, hd7⟩ := rc_facts hcy.out.box
      go_wp2_with fail
      refine (rencode_any (⟨ylsn, yepoch, ykind, ypage, yother, yreq, ykey, yvalue⟩ : Rc) hys.out W6).mono ?_
      rintro e w7 ⟨hk, hy, -⟩
      obtain ⟨A7, c7, rfl, ho⟩ := hy hok.out
      rw [← htk.out] at ho ⊢
      have hjn : Hd (j ≤ k) := ⟨by have := hjl.out; have := HS.out.len; omega⟩
      have hjd : decide ((j : Int) ≤ (k : Int)) = true := by simp; exact hjn.out
      have hjn' : (j : Int) ≤ (k : Int) := by have := hjn.out; omega
      have hlj : (b.take j).length = j := by rw [List.length_take]; have := hjl.out; omega
      rw [hlj] at ho ⊢
      have hk7 := Hd.mk (hk6.out.then' hk)
      have hs1 := Hd.mk ho.sl
      obtain ⟨hs2, hcutj⟩ := cut_to Try.E8 HS.out j hjn.out
      obtain ⟨S, hS⟩ : ∃ S, Hd (bsStr (b.take j) = S) := ⟨_, ⟨rfl⟩⟩
      have hcvA : Hd (∀ w', Ext w7 w' → (convert 31 9 (.slice A7 j c7)).run Try.prog w' = .ok (.string S) w') := ⟨fun w' h => by have := conv8 (hs1.out.ext h); rwa [hS.out] at this⟩
      have hcvB : Hd (∀ w', Ext w w' → (convert 31 9 (.slice A j c)).run Try.prog w' = .ok (.string S) w') := ⟨fun w' h => by have := conv8 (hs2.out.ext h); rwa [hS.out] at this⟩
      clear hk hy hcy hd0 hd1 hd2 hd3 hd4 hd5 hd6 hd7 hlj ho
      go_upto_region 13 with fail
      have hcv1 := hcvA.out _ (ext_refl w7).drew
      have hcv2 := hcvB.out _ hk7.out.drew
      go_region_held3 (fun w' => (convert 31 9 (.slice A7 j c7)).run Try.prog w' = .ok (.string S) w' ∧ (convert 31 9 (.slice A j c)).run Try.prog w' = .ok (.string S) w')
        (first | with_reducible exact ⟨hcv1, hcv2⟩ | with_reducible exact ⟨hcw1, hcw2⟩ | fail) (first
          | (go_at_call 39; refine (speaks9_any _).mono ?_; rintro e w' ⟨rfl, hk⟩; have hk8 := Hd.mk ((ext_refl w7).drew.ext hk); have hcw1 := hcvA.out _ hk8.out; have hcw2 := hcvB.out _ (hk7.out.ext hk8.out); clear hk))
      all_goals
        go_wp2_with fail
        first | exact hR.out _ _ ⟨rfl, hk7.out.ext hk8.out⟩ | (go_ret; exact hR.out _ _ ⟨rfl, hk7.out.ext hk8.out⟩)
    · have hz1 : (z != 0) = true := by simpa using hz0
      obtain ⟨e1, e2⟩ := decRec_none (b := b) (by rw [hz]; exact hz0)
      rw [e1] at hy
      rw [e2] at hm
      subst hy hm
      clear e1 e2 hz hz0
      simp only [rcV, zRc]
      go_upto_region 10 with fail
      obtain ⟨W6, hW⟩ : ∃ W, w5.alloc (.cells #[.int .i64 0, .int .i64 0, .int .i64 0, .int .i64 0, .int .i64 0, .int .i64 0, .string ⟨#[]⟩, .string ⟨#[]⟩] 46) = W := ⟨_, rfl⟩
      have hcy := Hd.mk (Rx.first (⟨0, 0, 0, 0, 0, 0, ⟨#[]⟩, ⟨#[]⟩⟩ : Rc) hW)
      rw [hW]
      clear hW
      obtain ⟨gy, hg⟩ : ∃ g, w5.heap.size = g := ⟨_, rfl⟩
      rw [hg] at hcy ⊢
      clear hg
      have hk6 := Hd.mk (hk5.out.then' hcy.out.ext)
      obtain ⟨hd0, hd1, hd2, hd3, hd4, hd5, hd6, hd7⟩ := rc_facts hcy.out.box
      go_wp2_with fail
      refine (speaks9_any W6).mono ?_
      rintro e w8 ⟨rfl, hk⟩
      have hk8 := Hd.mk hk
      clear hk
      go_wp2_with fail
      exact hR.out _ _ ⟨rfl, hk6.out.then' hk8.out⟩
  | false =>
    obtain rfl := hno hok
    have hk4 := Hd.mk hcur1.out.ext
    clear hcur1 hy hno hok
    go_upto_region 9 with fail
    go_wp2_with fail
    refine (rdecode_any A k c b w1 (HS.out.ext hk4.out) HN.out).mono ?_
    rintro e w5 ⟨rfl, hk⟩
    have hk5 := Hd.mk (hk4.out.then' hk)
    clear hk hk4
    obtain ⟨y, hy⟩ : ∃ r, (decRec b).1 = r := ⟨_, rfl⟩
    obtain ⟨m, hm⟩ : ∃ x, (decRec b).2.1 = x := ⟨_, rfl⟩
    obtain ⟨z, hz⟩ : ∃ z, (decRec b).2.2 = z := ⟨_, rfl⟩
    rw [hy, hm, hz]
    by_cases hz0 : z = 0
    · subst hz0
      have hdd : decRec b = (y, m, 0) := by rw [← hy, ← hm, ← hz]
      obtain ⟨hok, j, rfl, hjl, htk, hq1, hq2⟩ := decRec_back hdd
      clear hq1 hq2
      have F := okR_fit hok
      have hys : Hd (RcS y) := ⟨⟨by have := F.key; omega, by have := F.value; omega⟩⟩
      have hjl := Hd.mk hjl
      have htk := Hd.mk htk
      have hok := Hd.mk hok
      clear hdd hy hm hz F
      obtain ⟨ylsn, yepoch, ykind, ypage, yother, yreq, ykey, yvalue⟩ := y
      simp only [rcV]
      go_upto_region 10 with fail
      obtain ⟨W6, hW⟩ : ∃ W, w5.alloc (.cells #[.int .i64 ylsn, .int .i64 yepoch, .int .i64 ykind, .int .i64 ypage, .int .i64 yother, .int .i64 yreq, .string ykey, .string yvalue] 46) = W := ⟨_, rfl⟩
      have hcy := Hd.mk (Rx.first (⟨ylsn, yepoch, ykind, ypage, yother, yreq, ykey, yvalue⟩ : Rc) hW)
      rw [hW]
      clear hW
      obtain ⟨gy, hg⟩ : ∃ g, w5.heap.size = g := ⟨_, rfl⟩
      rw [hg] at hcy ⊢
      clear hg
      have hk6 := Hd.mk (hk5.out.then' hcy.out.ext)
      obtain ⟨hd0, hd1, hd2, hd3, hd4, hd5, hd6, hd7⟩ := rc_facts hcy.out.box
      go_wp2_with fail
      refine (rencode_any (⟨ylsn, yepoch, ykind, ypage, yother, yreq, ykey, yvalue⟩ : Rc) hys.out W6).mono ?_
      rintro e w7 ⟨hk, hy, -⟩
      obtain ⟨A7, c7, rfl, ho⟩ := hy hok.out
      rw [← htk.out] at ho ⊢
      have hjn : Hd (j ≤ k) := ⟨by have := hjl.out; have := HS.out.len; omega⟩
      have hjd : decide ((j : Int) ≤ (k : Int)) = true := by simp; exact hjn.out
      have hjn' : (j : Int) ≤ (k : Int) := by have := hjn.out; omega
      have hlj : (b.take j).length = j := by rw [List.length_take]; have := hjl.out; omega
      rw [hlj] at ho ⊢
      have hk7 := Hd.mk (hk6.out.then' hk)
      have hs1 := Hd.mk ho.sl
      obtain ⟨hs2, hcutj⟩ := cut_to Try.E8 HS.out j hjn.out
      obtain ⟨S, hS⟩ : ∃ S, Hd (bsStr (b.take j) = S) := ⟨_, ⟨rfl⟩⟩
      have hcvA : Hd (∀ w', Ext w7 w' → (convert 31 9 (.slice A7 j c7)).run Try.prog w' = .ok (.string S) w') := ⟨fun w' h => by have := conv8 (hs1.out.ext h); rwa [hS.out] at this⟩
      have hcvB : Hd (∀ w', Ext w w' → (convert 31 9 (.slice A j c)).run Try.prog w' = .ok (.string S) w') := ⟨fun w' h => by have := conv8 (hs2.out.ext h); rwa [hS.out] at this⟩
      clear hk hy hcy hd0 hd1 hd2 hd3 hd4 hd5 hd6 hd7 hlj ho
      go_upto_region 13 with fail
      have hcv1 := hcvA.out _ (ext_refl w7).drew
      have hcv2 := hcvB.out _ hk7.out.drew
      go_region_held3 (fun w' => (convert 31 9 (.slice A7 j c7)).run Try.prog w' = .ok (.string S) w' ∧ (convert 31 9 (.slice A j c)).run Try.prog w' = .ok (.string S) w')
        (first | with_reducible exact ⟨hcv1, hcv2⟩ | with_reducible exact ⟨hcw1, hcw2⟩ | fail) (first
          | (go_at_call 39; refine (speaks9_any _).mono ?_; rintro e w' ⟨rfl, hk⟩; have hk8 := Hd.mk ((ext_refl w7).drew.ext hk); have hcw1 := hcvA.out _ hk8.out; have hcw2 := hcvB.out _ (hk7.out.ext hk8.out); clear hk))
      all_goals
        go_wp2_with fail
        first | exact hR.out _ _ ⟨rfl, hk7.out.ext hk8.out⟩ | (go_ret; exact hR.out _ _ ⟨rfl, hk7.out.ext hk8.out⟩)
    · have hz1 : (z != 0) = true := by simpa using hz0
      obtain ⟨e1, e2⟩ := decRec_none (b := b) (by rw [hz]; exact hz0)
      rw [e1] at hy
      rw [e2] at hm
      subst hy hm
      clear e1 e2 hz hz0
      simp only [rcV, zRc]
      go_upto_region 10 with fail
      obtain ⟨W6, hW⟩ : ∃ W, w5.alloc (.cells #[.int .i64 0, .int .i64 0, .int .i64 0, .int .i64 0, .int .i64 0, .int .i64 0, .string ⟨#[]⟩, .string ⟨#[]⟩] 46) = W := ⟨_, rfl⟩
      have hcy := Hd.mk (Rx.first (⟨0, 0, 0, 0, 0, 0, ⟨#[]⟩, ⟨#[]⟩⟩ : Rc) hW)
      rw [hW]
      clear hW
      obtain ⟨gy, hg⟩ : ∃ g, w5.heap.size = g := ⟨_, rfl⟩
      rw [hg] at hcy ⊢
      clear hg
      have hk6 := Hd.mk (hk5.out.then' hcy.out.ext)
      obtain ⟨hd0, hd1, hd2, hd3, hd4, hd5, hd6, hd7⟩ := rc_facts hcy.out.box
      go_wp2_with fail
      refine (speaks9_any W6).mono ?_
      rintro e w8 ⟨rfl, hk⟩
      have hk8 := Hd.mk hk
      clear hk
      go_wp2_with fail
      exact hR.out _ _ ⟨rfl, hk6.out.then' hk8.out⟩
end Go.Proofs.Ythpfkdaijiaalaa
