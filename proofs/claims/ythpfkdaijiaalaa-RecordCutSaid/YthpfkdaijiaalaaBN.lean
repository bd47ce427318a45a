/- The record's statements: what is cut or turned is never taken for a frame. -/
import Derived.Test.YthpfkdaijiaalaaBJ
import Derived.Test.YthpfkdaijiaalaaBL
namespace Go.Proofs.Ythpfkdaijiaalaa
open Go.RowKit

set_option maxRecDepth 100000 in
set_option maxHeartbeats 16000000 in
theorem lawRCut (r : Rc) (cut at_ : Int) (w : World) (hr : RcS r) (hcb : -9223372036854775808 ≤ cut ∧ cut ≤ 9223372036854775807) (hat : -9223372036854775808 ≤ at_ ∧ at_ ≤ 9223372036854775807) :
    Calls Try.prog 12 #[rcV r, .int .i64 cut, .int .i64 at_] w fun e w' => e = .returned (.bool true) ∧ Ext w w' := by
  refine hide_post fun R hR => ?_
  have hr := Hd.mk hr
  obtain ⟨lsn, epoch, kind, page, other, req, key, value⟩ := r
  simp only [rcV]
  go_enter Try.func12, Try.ntmps12
  go_wp2_with fail
  obtain ⟨W, hW⟩ : ∃ W, w.alloc (.cells #[.int .i64 lsn, .int .i64 epoch, .int .i64 kind, .int .i64 page, .int .i64 other, .int .i64 req, .string key, .string value] 46) = W := ⟨_, rfl⟩
  have hcur := Hd.mk (Rx.first (⟨lsn, epoch, kind, page, other, req, key, value⟩ : Rc) hW)
  rw [hW]
  clear hW
  obtain ⟨g, hg⟩ : ∃ g, w.heap.size = g := ⟨_, rfl⟩
  rw [hg] at hcur ⊢
  clear hg
  refine (rencode_any (⟨lsn, epoch, kind, page, other, req, key, value⟩ : Rc) hr.out W).mono ?_
  rintro e w1 ⟨hk, hy, hno⟩
  have hk1 := Hd.mk (hcur.out.ext.then' hk)
  clear hcur hk
  cases hok : okR ⟨lsn, epoch, kind, page, other, req, key, value⟩ with
  | false =>
    obtain rfl := hno hok
    clear hy hno hok
    go_wp2_with fail
    refine (speaks9_any w1).mono ?_
    rintro e w8 ⟨rfl, hk⟩
    have hk8 := Hd.mk hk
    clear hk
    go_wp2_with fail
    exact hR.out _ _ ⟨rfl, hk1.out.then' hk8.out⟩
  | true =>
    obtain ⟨A1, c1, rfl, ho⟩ := hy hok
    have F := Hd.mk (okR_fit hok)
    clear hy hno hok
    have hlen : Hd ((frameB ⟨lsn, epoch, kind, page, other, req, key, value⟩).length ≤ 315 ∧ 43 ≤ (frameB ⟨lsn, epoch, kind, page, other, req, key, value⟩).length) := ⟨by rw [frameB_len]; have := F.out.len; have := recL_len ⟨lsn, epoch, kind, page, other, req, key, value⟩; omega⟩
    have hcutall : Hd (∀ j, j < (frameB ⟨lsn, epoch, kind, page, other, req, key, value⟩).length → decRec ((frameB ⟨lsn, epoch, kind, page, other, req, key, value⟩).take j) = (zRc, 0, 10)) := ⟨fun j hj => decRec_cut F.out hj⟩
    obtain ⟨N, hN⟩ : ∃ N, (frameB ⟨lsn, epoch, kind, page, other, req, key, value⟩).length = N := ⟨_, rfl⟩
    rw [hN] at ho hlen hcutall ⊢
    have hN := Hd.mk hN
    have hs1 := Hd.mk ho.sl
    clear ho
    have hN0 : ((N : Int) == 0) = false := by have := hlen.out; simp; omega
    have hNb : (N : Int) ≤ 315 := by have := hlen.out; omega
    have hNb2 : (43 : Int) ≤ (N : Int) := by have := hlen.out; omega
    have h3 : cut < 0 ∨ (0 ≤ cut ∧ cut < (N : Int)) ∨ (N : Int) ≤ cut := by omega
    rcases h3 with h3 | h3 | h3
    · have hc1 : decide (cut < 0) = true := by simpa using h3
      obtain ⟨j, hjq⟩ : ∃ j : Nat, (N : Int) - 1 = (j : Int) := ⟨N - 1, by omega⟩
      have hjN : Hd (j < N) := ⟨by omega⟩
      have hdcut := Hd.mk (hcutall.out j hjN.out)
      have hat3 : at_ < 0 ∨ (0 ≤ at_ ∧ at_ < 8 * (N : Int)) ∨ 8 * (N : Int) ≤ at_ := by omega
      rcases hat3 with h1 | h1 | h1
      · as_aux_lemma =>
        have h20 : decide (at_ < 0) = true := by simpa using h1
        have hqN : Hd (0 < N) := ⟨by have := hlen.out; omega⟩
        obtain ⟨hsj, hcutj⟩ := cut_to Try.E8 hs1.out j (by have := hjN.out; omega)
        go_wp2_with fail
        refine (rdecode_any A1 j c1 ((frameB ⟨lsn, epoch, kind, page, other, req, key, value⟩).take j) w1 hsj.out (by have := hjN.out; have := hlen.out; omega)).mono ?_
        rintro e w2 ⟨rfl, hk⟩
        rw [hdcut.out]
        have hk2 := Hd.mk (hk1.out.then' hk)
        have hs2 := Hd.mk (hs1.out.ext hk)
        clear hk hsj hcutj
        simp only [rcV, zRc]
        go_upto_region 10 with fail
        obtain ⟨w3, hW⟩ : ∃ W, w2.alloc (.cells #[.int .i64 0, .int .i64 0, .int .i64 0, .int .i64 0, .int .i64 0, .int .i64 0, .string ⟨#[]⟩, .string ⟨#[]⟩] 46) = W := ⟨_, rfl⟩
        have hk3 : Hd (Ext w2 w3) := ⟨by rw [← hW]; exact (ext_refl w2).alloc _⟩
        rw [hW]
        clear hW
        have hs3 := Hd.mk (hs2.out.ext hk3.out)
        have hK3 := Hd.mk (hk2.out.then' hk3.out)
        clear hs2 hk2 hk3
        go_wp2_with (at_builtin; refine wp_app Try.E8 rfl _ _ rfl (B := w3.heap.size) (xs := []) rfl ⟨rfl, .inl ⟨rfl, rfl⟩⟩ rfl hs3.out ?c1 ?c2 ?c3 ?_)
        case c1 => have := hlen.out; omega
        case c2 => have := hlen.out; omega
        case c3 => omega
        intro A4 c4 w4 ho4 hk4 _
        have hk4 : Ext w3 w4 := hk4.weaken (fun _ _ h => absurd rfl h.1)
        have hK4 := Hd.mk (hK3.out.ext hk4)
        have ho4 : Own enc8 1 5 w3.heap.size w4 A4 N c4 (frameB ⟨lsn, epoch, kind, page, other, req, key, value⟩) := by simpa using ho4
        obtain ⟨gp, cur, hA, hgp, hrow, hnc, hcm, hcs, htake⟩ := ho4.row.resolve_left (by have := hlen.out; omega)
        subst hA
        have hgp := Hd.mk (Nat.le_trans hK3.out.size hgp)
        rw [Nat.mul_one] at htake
        clear hk4 ho4 hcs hs3
        obtain ⟨x, hx⟩ : ∃ x, (frameB ⟨lsn, epoch, kind, page, other, req, key, value⟩)[0]? = some x := ⟨_, List.getElem?_eq_getElem (by have := hN.out; have := hqN.out; omega)⟩
        have hcx := own_cell hrow htake hx hN.out
        have hfz : w4.frozen? ⟨gp, 0, none⟩ = false := by simp [World.frozen?, hrow]
        obtain ⟨v, hval, hne⟩ := bit_turn x 0 (by omega)
        have hval : bits BinOp.xor IntKind.u8 (x.toNat : Int) 1 = (v.toNat : Int) := hval
        have hbad := Hd.mk (decRec_turned F.out hx hne)
        have hsl := Hd.mk (sl_set (j := 0) hrow hN.out hnc (by simp only [maxLen] at hcm; omega) htake v)
        have hK5 : Hd (Ext w (w4.setCell ⟨gp, 0, none⟩ (.int .u8 (v.toNat : Int)))) := ⟨hK4.out.setCell (p := ⟨gp, 0, none⟩) (fun h => by have := hgp.out; simp only at h; omega) _⟩
        have hrow := Hd.mk hrow
        have htake := Hd.mk htake
        clear hne hx
        go_upto_region 12 with fail
        obtain ⟨w5, hw5⟩ : ∃ w5, w4.setCell ⟨gp, 0, none⟩ (.int .u8 (v.toNat : Int)) = w5 := ⟨_, rfl⟩
        rw [hw5] at hsl hK5 ⊢
        clear hw5 hcx hfz
        go_wp2_with fail
        refine (rdecode_any (some ⟨gp, 0, none⟩) N c4 _ w5 hsl.out (by have := hlen.out; omega)).mono ?_
        rintro e w6 ⟨rfl, hk⟩
        have hK6 := Hd.mk (hK5.out.ext hk)
        clear hk hsl
        obtain ⟨y, hy⟩ : ∃ z, (decRec ((frameB ⟨lsn, epoch, kind, page, other, req, key, value⟩).set 0 v)).2.2 = z := ⟨_, rfl⟩
        have hbad2 := hbad.out
        rw [hy] at hbad2
        have hy1 : (y != 0) = true := by simpa using hbad2
        rw [(decRec_none hbad.out).1, (decRec_none hbad.out).2, hy]
        clear hy hbad hbad2
        simp only [rcV, zRc]
        go_upto_region 13 with fail
        obtain ⟨W7, hW⟩ : ∃ W, w6.alloc (.cells #[.int .i64 0, .int .i64 0, .int .i64 0, .int .i64 0, .int .i64 0, .int .i64 0, .string ⟨#[]⟩, .string ⟨#[]⟩] 46) = W := ⟨_, rfl⟩
        have hcy := Hd.mk (Rx.first (⟨0, 0, 0, 0, 0, 0, ⟨#[]⟩, ⟨#[]⟩⟩ : Rc) hW)
        rw [hW]
        clear hW
        obtain ⟨gy, hg⟩ : ∃ g, w6.heap.size = g := ⟨_, rfl⟩
        rw [hg] at hcy ⊢
        clear hg
        have hK7 := Hd.mk (hK6.out.ext hcy.out.ext)
        obtain ⟨hd0, hd1, hd2, hd3, hd4, hd5, hd6, hd7⟩ := rc_facts hcy.out.box
        go_wp2_with fail
        refine (speaks9_any W7).mono ?_
        rintro e w8 ⟨rfl, hk⟩
        have hk8 := Hd.mk hk
        clear hk
        go_wp2_with fail
        exact hR.out _ _ ⟨rfl, hK7.out.ext hk8.out⟩
      · as_aux_lemma =>
        obtain ⟨q, hq⟩ : ∃ q : Nat, at_ / 8 = (q : Int) := ⟨(at_ / 8).toNat, by omega⟩
        obtain ⟨kk, hkk⟩ : ∃ kk : Nat, at_ % 8 = (kk : Int) := ⟨(at_ % 8).toNat, by omega⟩
        have hqb : (q : Int) < (N : Int) := by omega
        have hkb : (kk : Int) < 8 := by omega
        have hqN : Hd (q < N) := ⟨by omega⟩
        have h10 : 0 ≤ at_ := h1.1
        have h11 : at_ < 8 * (N : Int) := h1.2
        clear h1
        obtain ⟨hsj, hcutj⟩ := cut_to Try.E8 hs1.out j (by have := hjN.out; omega)
        go_wp2_with fail
        refine (rdecode_any A1 j c1 ((frameB ⟨lsn, epoch, kind, page, other, req, key, value⟩).take j) w1 hsj.out (by have := hjN.out; have := hlen.out; omega)).mono ?_
        rintro e w2 ⟨rfl, hk⟩
        rw [hdcut.out]
        have hk2 := Hd.mk (hk1.out.then' hk)
        have hs2 := Hd.mk (hs1.out.ext hk)
        clear hk hsj hcutj
        simp only [rcV, zRc]
        go_upto_region 10 with fail
        obtain ⟨w3, hW⟩ : ∃ W, w2.alloc (.cells #[.int .i64 0, .int .i64 0, .int .i64 0, .int .i64 0, .int .i64 0, .int .i64 0, .string ⟨#[]⟩, .string ⟨#[]⟩] 46) = W := ⟨_, rfl⟩
        have hk3 : Hd (Ext w2 w3) := ⟨by rw [← hW]; exact (ext_refl w2).alloc _⟩
        rw [hW]
        clear hW
        have hs3 := Hd.mk (hs2.out.ext hk3.out)
        have hK3 := Hd.mk (hk2.out.then' hk3.out)
        clear hs2 hk2 hk3
        go_wp2_with (at_builtin; refine wp_app Try.E8 rfl _ _ rfl (B := w3.heap.size) (xs := []) rfl ⟨rfl, .inl ⟨rfl, rfl⟩⟩ rfl hs3.out ?c1 ?c2 ?c3 ?_)
        case c1 => have := hlen.out; omega
        case c2 => have := hlen.out; omega
        case c3 => omega
        intro A4 c4 w4 ho4 hk4 _
        have hk4 : Ext w3 w4 := hk4.weaken (fun _ _ h => absurd rfl h.1)
        have hK4 := Hd.mk (hK3.out.ext hk4)
        have ho4 : Own enc8 1 5 w3.heap.size w4 A4 N c4 (frameB ⟨lsn, epoch, kind, page, other, req, key, value⟩) := by simpa using ho4
        obtain ⟨gp, cur, hA, hgp, hrow, hnc, hcm, hcs, htake⟩ := ho4.row.resolve_left (by have := hlen.out; omega)
        subst hA
        have hgp := Hd.mk (Nat.le_trans hK3.out.size hgp)
        rw [Nat.mul_one] at htake
        clear hk4 ho4 hcs hs3
        obtain ⟨x, hx⟩ : ∃ x, (frameB ⟨lsn, epoch, kind, page, other, req, key, value⟩)[q]? = some x := ⟨_, List.getElem?_eq_getElem (by have := hN.out; have := hqN.out; omega)⟩
        have hcx := own_cell hrow htake hx hN.out
        have hfz : w4.frozen? ⟨gp, q, none⟩ = false := by simp [World.frozen?, hrow]
        obtain ⟨v, hval, hne⟩ := bit_turn x kk (by omega)
        have hbad := Hd.mk (decRec_turned F.out hx hne)
        have hsl := Hd.mk (sl_set (j := q) hrow hN.out hnc (by simp only [maxLen] at hcm; omega) htake v)
        have hK5 : Hd (Ext w (w4.setCell ⟨gp, q, none⟩ (.int .u8 (v.toNat : Int)))) := ⟨hK4.out.setCell (p := ⟨gp, q, none⟩) (fun h => by have := hgp.out; simp only at h; omega) _⟩
        have hrow := Hd.mk hrow
        have htake := Hd.mk htake
        clear hne hx
        go_upto_region 12 with fail
        obtain ⟨w5, hw5⟩ : ∃ w5, w4.setCell ⟨gp, q, none⟩ (.int .u8 (v.toNat : Int)) = w5 := ⟨_, rfl⟩
        rw [hw5] at hsl hK5 ⊢
        clear hw5 hcx hfz
        go_wp2_with fail
        refine (rdecode_any (some ⟨gp, 0, none⟩) N c4 _ w5 hsl.out (by have := hlen.out; omega)).mono ?_
        rintro e w6 ⟨rfl, hk⟩
        have hK6 := Hd.mk (hK5.out.ext hk)
        clear hk hsl
        obtain ⟨y, hy⟩ : ∃ z, (decRec ((frameB ⟨lsn, epoch, kind, page, other, req, key, value⟩).set q v)).2.2 = z := ⟨_, rfl⟩
        have hbad2 := hbad.out
        rw [hy] at hbad2
        have hy1 : (y != 0) = true := by simpa using hbad2
        rw [(decRec_none hbad.out).1, (decRec_none hbad.out).2, hy]
        clear hy hbad hbad2
        simp only [rcV, zRc]
        go_upto_region 13 with fail
        obtain ⟨W7, hW⟩ : ∃ W, w6.alloc (.cells #[.int .i64 0, .int .i64 0, .int .i64 0, .int .i64 0, .int .i64 0, .int .i64 0, .string ⟨#[]⟩, .string ⟨#[]⟩] 46) = W := ⟨_, rfl⟩
        have hcy := Hd.mk (Rx.first (⟨0, 0, 0, 0, 0, 0, ⟨#[]⟩, ⟨#[]⟩⟩ : Rc) hW)
        rw [hW]
        clear hW
        obtain ⟨gy, hg⟩ : ∃ g, w6.heap.size = g := ⟨_, rfl⟩
        rw [hg] at hcy ⊢
        clear hg
        have hK7 := Hd.mk (hK6.out.ext hcy.out.ext)
        obtain ⟨hd0, hd1, hd2, hd3, hd4, hd5, hd6, hd7⟩ := rc_facts hcy.out.box
        go_wp2_with fail
        refine (speaks9_any W7).mono ?_
        rintro e w8 ⟨rfl, hk⟩
        have hk8 := Hd.mk hk
        clear hk
        go_wp2_with fail
        exact hR.out _ _ ⟨rfl, hK7.out.ext hk8.out⟩
      · as_aux_lemma =>
        have h20 : decide (at_ < 0) = false := by simp; omega
        have h21 : decide (8 * (N : Int) ≤ at_) = true := by simpa using h1
        have hqN : Hd (0 < N) := ⟨by have := hlen.out; omega⟩
        obtain ⟨hsj, hcutj⟩ := cut_to Try.E8 hs1.out j (by have := hjN.out; omega)
        go_wp2_with fail
        refine (rdecode_any A1 j c1 ((frameB ⟨lsn, epoch, kind, page, other, req, key, value⟩).take j) w1 hsj.out (by have := hjN.out; have := hlen.out; omega)).mono ?_
        rintro e w2 ⟨rfl, hk⟩
        rw [hdcut.out]
        have hk2 := Hd.mk (hk1.out.then' hk)
        have hs2 := Hd.mk (hs1.out.ext hk)
        clear hk hsj hcutj
        simp only [rcV, zRc]
        go_upto_region 10 with fail
        obtain ⟨w3, hW⟩ : ∃ W, w2.alloc (.cells #[.int .i64 0, .int .i64 0, .int .i64 0, .int .i64 0, .int .i64 0, .int .i64 0, .string ⟨#[]⟩, .string ⟨#[]⟩] 46) = W := ⟨_, rfl⟩
        have hk3 : Hd (Ext w2 w3) := ⟨by rw [← hW]; exact (ext_refl w2).alloc _⟩
        rw [hW]
        clear hW
        have hs3 := Hd.mk (hs2.out.ext hk3.out)
        have hK3 := Hd.mk (hk2.out.then' hk3.out)
        clear hs2 hk2 hk3
        go_wp2_with (at_builtin; refine wp_app Try.E8 rfl _ _ rfl (B := w3.heap.size) (xs := []) rfl ⟨rfl, .inl ⟨rfl, rfl⟩⟩ rfl hs3.out ?c1 ?c2 ?c3 ?_)
        case c1 => have := hlen.out; omega
        case c2 => have := hlen.out; omega
        case c3 => omega
        intro A4 c4 w4 ho4 hk4 _
        have hk4 : Ext w3 w4 := hk4.weaken (fun _ _ h => absurd rfl h.1)
        have hK4 := Hd.mk (hK3.out.ext hk4)
        have ho4 : Own enc8 1 5 w3.heap.size w4 A4 N c4 (frameB ⟨lsn, epoch, kind, page, other, req, key, value⟩) := by simpa using ho4
        obtain ⟨gp, cur, hA, hgp, hrow, hnc, hcm, hcs, htake⟩ := ho4.row.resolve_left (by have := hlen.out; omega)
        subst hA
        have hgp := Hd.mk (Nat.le_trans hK3.out.size hgp)
        rw [Nat.mul_one] at htake
        clear hk4 ho4 hcs hs3
        obtain ⟨x, hx⟩ : ∃ x, (frameB ⟨lsn, epoch, kind, page, other, req, key, value⟩)[0]? = some x := ⟨_, List.getElem?_eq_getElem (by have := hN.out; have := hqN.out; omega)⟩
        have hcx := own_cell hrow htake hx hN.out
        have hfz : w4.frozen? ⟨gp, 0, none⟩ = false := by simp [World.frozen?, hrow]
        obtain ⟨v, hval, hne⟩ := bit_turn x 0 (by omega)
        have hval : bits BinOp.xor IntKind.u8 (x.toNat : Int) 1 = (v.toNat : Int) := hval
        have hbad := Hd.mk (decRec_turned F.out hx hne)
        have hsl := Hd.mk (sl_set (j := 0) hrow hN.out hnc (by simp only [maxLen] at hcm; omega) htake v)
        have hK5 : Hd (Ext w (w4.setCell ⟨gp, 0, none⟩ (.int .u8 (v.toNat : Int)))) := ⟨hK4.out.setCell (p := ⟨gp, 0, none⟩) (fun h => by have := hgp.out; simp only at h; omega) _⟩
        have hrow := Hd.mk hrow
        have htake := Hd.mk htake
        clear hne hx
        go_upto_region 12 with fail
        obtain ⟨w5, hw5⟩ : ∃ w5, w4.setCell ⟨gp, 0, none⟩ (.int .u8 (v.toNat : Int)) = w5 := ⟨_, rfl⟩
        rw [hw5] at hsl hK5 ⊢
        clear hw5 hcx hfz
        go_wp2_with fail
        refine (rdecode_any (some ⟨gp, 0, none⟩) N c4 _ w5 hsl.out (by have := hlen.out; omega)).mono ?_
        rintro e w6 ⟨rfl, hk⟩
        have hK6 := Hd.mk (hK5.out.ext hk)
        clear hk hsl
        obtain ⟨y, hy⟩ : ∃ z, (decRec ((frameB ⟨lsn, epoch, kind, page, other, req, key, value⟩).set 0 v)).2.2 = z := ⟨_, rfl⟩
        have hbad2 := hbad.out
        rw [hy] at hbad2
        have hy1 : (y != 0) = true := by simpa using hbad2
        rw [(decRec_none hbad.out).1, (decRec_none hbad.out).2, hy]
        clear hy hbad hbad2
        simp only [rcV, zRc]
        go_upto_region 13 with fail
        obtain ⟨W7, hW⟩ : ∃ W, w6.alloc (.cells #[.int .i64 0, .int .i64 0, .int .i64 0, .int .i64 0, .int .i64 0, .int .i64 0, .string ⟨#[]⟩, .string ⟨#[]⟩] 46) = W := ⟨_, rfl⟩
        have hcy := Hd.mk (Rx.first (⟨0, 0, 0, 0, 0, 0, ⟨#[]⟩, ⟨#[]⟩⟩ : Rc) hW)
        rw [hW]
        clear hW
        obtain ⟨gy, hg⟩ : ∃ g, w6.heap.size = g := ⟨_, rfl⟩
        rw [hg] at hcy ⊢
        clear hg
        have hK7 := Hd.mk (hK6.out.ext hcy.out.ext)
        obtain ⟨hd0, hd1, hd2, hd3, hd4, hd5, hd6, hd7⟩ := rc_facts hcy.out.box
        go_wp2_with fail
        refine (speaks9_any W7).mono ?_
        rintro e w8 ⟨rfl, hk⟩
        have hk8 := Hd.mk hk
        clear hk
        go_wp2_with fail
        exact hR.out _ _ ⟨rfl, hK7.out.ext hk8.out⟩
    · obtain ⟨j, rfl⟩ := Int.eq_ofNat_of_zero_le h3.1
      have hjN : Hd (j < N) := ⟨by omega⟩
      have hc1 : (j : Int) < (N : Int) := h3.2
      clear h3
      have hdcut := Hd.mk (hcutall.out j hjN.out)
      have hat3 : at_ < 0 ∨ (0 ≤ at_ ∧ at_ < 8 * (N : Int)) ∨ 8 * (N : Int) ≤ at_ := by omega
      rcases hat3 with h1 | h1 | h1
      · as_aux_lemma =>
        have h20 : decide (at_ < 0) = true := by simpa using h1
        have hqN : Hd (0 < N) := ⟨by have := hlen.out; omega⟩
        obtain ⟨hsj, hcutj⟩ := cut_to Try.E8 hs1.out j (by have := hjN.out; omega)
        go_wp2_with fail
        refine (rdecode_any A1 j c1 ((frameB ⟨lsn, epoch, kind, page, other, req, key, value⟩).take j) w1 hsj.out (by have := hjN.out; have := hlen.out; omega)).mono ?_
        rintro e w2 ⟨rfl, hk⟩
        rw [hdcut.out]
        have hk2 := Hd.mk (hk1.out.then' hk)
        have hs2 := Hd.mk (hs1.out.ext hk)
        clear hk hsj hcutj
        simp only [rcV, zRc]
        go_upto_region 10 with fail
        obtain ⟨w3, hW⟩ : ∃ W, w2.alloc (.cells #[.int .i64 0, .int .i64 0, .int .i64 0, .int .i64 0, .int .i64 0, .int .i64 0, .string ⟨#[]⟩, .string ⟨#[]⟩] 46) = W := ⟨_, rfl⟩
        have hk3 : Hd (Ext w2 w3) := ⟨by rw [← hW]; exact (ext_refl w2).alloc _⟩
        rw [hW]
        clear hW
        have hs3 := Hd.mk (hs2.out.ext hk3.out)
        have hK3 := Hd.mk (hk2.out.then' hk3.out)
        clear hs2 hk2 hk3
        go_wp2_with (at_builtin; refine wp_app Try.E8 rfl _ _ rfl (B := w3.heap.size) (xs := []) rfl ⟨rfl, .inl ⟨rfl, rfl⟩⟩ rfl hs3.out ?c1 ?c2 ?c3 ?_)
        case c1 => have := hlen.out; omega
        case c2 => have := hlen.out; omega
        case c3 => omega
        intro A4 c4 w4 ho4 hk4 _
        have hk4 : Ext w3 w4 := hk4.weaken (fun _ _ h => absurd rfl h.1)
        have hK4 := Hd.mk (hK3.out.ext hk4)
        have ho4 : Own enc8 1 5 w3.heap.size w4 A4 N c4 (frameB ⟨lsn, epoch, kind, page, other, req, key, value⟩) := by simpa using ho4
        obtain ⟨gp, cur, hA, hgp, hrow, hnc, hcm, hcs, htake⟩ := ho4.row.resolve_left (by have := hlen.out; omega)
        subst hA
        have hgp := Hd.mk (Nat.le_trans hK3.out.size hgp)
        rw [Nat.mul_one] at htake
        clear hk4 ho4 hcs hs3
        obtain ⟨x, hx⟩ : ∃ x, (frameB ⟨lsn, epoch, kind, page, other, req, key, value⟩)[0]? = some x := ⟨_, List.getElem?_eq_getElem (by have := hN.out; have := hqN.out; omega)⟩
        have hcx := own_cell hrow htake hx hN.out
        have hfz : w4.frozen? ⟨gp, 0, none⟩ = false := by simp [World.frozen?, hrow]
        obtain ⟨v, hval, hne⟩ := bit_turn x 0 (by omega)
        have hval : bits BinOp.xor IntKind.u8 (x.toNat : Int) 1 = (v.toNat : Int) := hval
        have hbad := Hd.mk (decRec_turned F.out hx hne)
        have hsl := Hd.mk (sl_set (j := 0) hrow hN.out hnc (by simp only [maxLen] at hcm; omega) htake v)
        have hK5 : Hd (Ext w (w4.setCell ⟨gp, 0, none⟩ (.int .u8 (v.toNat : Int)))) := ⟨hK4.out.setCell (p := ⟨gp, 0, none⟩) (fun h => by have := hgp.out; simp only at h; omega) _⟩
        have hrow := Hd.mk hrow
        have htake := Hd.mk htake
        clear hne hx
        go_upto_region 12 with fail
        obtain ⟨w5, hw5⟩ : ∃ w5, w4.setCell ⟨gp, 0, none⟩ (.int .u8 (v.toNat : Int)) = w5 := ⟨_, rfl⟩
        rw [hw5] at hsl hK5 ⊢
        clear hw5 hcx hfz
        go_wp2_with fail
        refine (rdecode_any (some ⟨gp, 0, none⟩) N c4 _ w5 hsl.out (by have := hlen.out; omega)).mono ?_
        rintro e w6 ⟨rfl, hk⟩
        have hK6 := Hd.mk (hK5.out.ext hk)
        clear hk hsl
        obtain ⟨y, hy⟩ : ∃ z, (decRec ((frameB ⟨lsn, epoch, kind, page, other, req, key, value⟩).set 0 v)).2.2 = z := ⟨_, rfl⟩
        have hbad2 := hbad.out
        rw [hy] at hbad2
        have hy1 : (y != 0) = true := by simpa using hbad2
        rw [(decRec_none hbad.out).1, (decRec_none hbad.out).2, hy]
        clear hy hbad hbad2
        simp only [rcV, zRc]
        go_upto_region 13 with fail
        obtain ⟨W7, hW⟩ : ∃ W, w6.alloc (.cells #[.int .i64 0, .int .i64 0, .int .i64 0, .int .i64 0, .int .i64 0, .int .i64 0, .string ⟨#[]⟩, .string ⟨#[]⟩] 46) = W := ⟨_, rfl⟩
        have hcy := Hd.mk (Rx.first (⟨0, 0, 0, 0, 0, 0, ⟨#[]⟩, ⟨#[]⟩⟩ : Rc) hW)
        rw [hW]
        clear hW
        obtain ⟨gy, hg⟩ : ∃ g, w6.heap.size = g := ⟨_, rfl⟩
        rw [hg] at hcy ⊢
        clear hg
        have hK7 := Hd.mk (hK6.out.ext hcy.out.ext)
        obtain ⟨hd0, hd1, hd2, hd3, hd4, hd5, hd6, hd7⟩ := rc_facts hcy.out.box
        go_wp2_with fail
        refine (speaks9_any W7).mono ?_
        rintro e w8 ⟨rfl, hk⟩
        have hk8 := Hd.mk hk
        clear hk
        go_wp2_with fail
        exact hR.out _ _ ⟨rfl, hK7.out.ext hk8.out⟩
      · as_aux_lemma =>
        obtain ⟨q, hq⟩ : ∃ q : Nat, at_ / 8 = (q : Int) := ⟨(at_ / 8).toNat, by omega⟩
        obtain ⟨kk, hkk⟩ : ∃ kk : Nat, at_ % 8 = (kk : Int) := ⟨(at_ % 8).toNat, by omega⟩
        have hqb : (q : Int) < (N : Int) := by omega
        have hkb : (kk : Int) < 8 := by omega
        have hqN : Hd (q < N) := ⟨by omega⟩
        have h10 : 0 ≤ at_ := h1.1
        have h11 : at_ < 8 * (N : Int) := h1.2
        clear h1
        obtain ⟨hsj, hcutj⟩ := cut_to Try.E8 hs1.out j (by have := hjN.out; omega)
        go_wp2_with fail
        refine (rdecode_any A1 j c1 ((frameB ⟨lsn, epoch, kind, page, other, req, key, value⟩).take j) w1 hsj.out (by have := hjN.out; have := hlen.out; omega)).mono ?_
        rintro e w2 ⟨rfl, hk⟩
        rw [hdcut.out]
        have hk2 := Hd.mk (hk1.out.then' hk)
        have hs2 := Hd.mk (hs1.out.ext hk)
        clear hk hsj hcutj
        simp only [rcV, zRc]
        go_upto_region 10 with fail
        obtain ⟨w3, hW⟩ : ∃ W, w2.alloc (.cells #[.int .i64 0, .int .i64 0, .int .i64 0, .int .i64 0, .int .i64 0, .int .i64 0, .string ⟨#[]⟩, .string ⟨#[]⟩] 46) = W := ⟨_, rfl⟩
        have hk3 : Hd (Ext w2 w3) := ⟨by rw [← hW]; exact (ext_refl w2).alloc _⟩
        rw [hW]
        clear hW
        have hs3 := Hd.mk (hs2.out.ext hk3.out)
        have hK3 := Hd.mk (hk2.out.then' hk3.out)
        clear hs2 hk2 hk3
        go_wp2_with (at_builtin; refine wp_app Try.E8 rfl _ _ rfl (B := w3.heap.size) (xs := []) rfl ⟨rfl, .inl ⟨rfl, rfl⟩⟩ rfl hs3.out ?c1 ?c2 ?c3 ?_)
        case c1 => have := hlen.out; omega
        case c2 => have := hlen.out; omega
        case c3 => omega
        intro A4 c4 w4 ho4 hk4 _
        have hk4 : Ext w3 w4 := hk4.weaken (fun _ _ h => absurd rfl h.1)
        have hK4 := Hd.mk (hK3.out.ext hk4)
        have ho4 : Own enc8 1 5 w3.heap.size w4 A4 N c4 (frameB ⟨lsn, epoch, kind, page, other, req, key, value⟩) := by simpa using ho4
        obtain ⟨gp, cur, hA, hgp, hrow, hnc, hcm, hcs, htake⟩ := ho4.row.resolve_left (by have := hlen.out; omega)
        subst hA
        have hgp := Hd.mk (Nat.le_trans hK3.out.size hgp)
        rw [Nat.mul_one] at htake
        clear hk4 ho4 hcs hs3
        obtain ⟨x, hx⟩ : ∃ x, (frameB ⟨lsn, epoch, kind, page, other, req, key, value⟩)[q]? = some x := ⟨_, List.getElem?_eq_getElem (by have := hN.out; have := hqN.out; omega)⟩
        have hcx := own_cell hrow htake hx hN.out
        have hfz : w4.frozen? ⟨gp, q, none⟩ = false := by simp [World.frozen?, hrow]
        obtain ⟨v, hval, hne⟩ := bit_turn x kk (by omega)
        have hbad := Hd.mk (decRec_turned F.out hx hne)
        have hsl := Hd.mk (sl_set (j := q) hrow hN.out hnc (by simp only [maxLen] at hcm; omega) htake v)
        have hK5 : Hd (Ext w (w4.setCell ⟨gp, q, none⟩ (.int .u8 (v.toNat : Int)))) := ⟨hK4.out.setCell (p := ⟨gp, q, none⟩) (fun h => by have := hgp.out; simp only at h; omega) _⟩
        have hrow := Hd.mk hrow
        have htake := Hd.mk htake
        clear hne hx
        go_upto_region 12 with fail
        obtain ⟨w5, hw5⟩ : ∃ w5, w4.setCell ⟨gp, q, none⟩ (.int .u8 (v.toNat : Int)) = w5 := ⟨_, rfl⟩
        rw [hw5] at hsl hK5 ⊢
        clear hw5 hcx hfz
        go_wp2_with fail
        refine (rdecode_any (some ⟨gp, 0, none⟩) N c4 _ w5 hsl.out (by have := hlen.out; omega)).mono ?_
        rintro e w6 ⟨rfl, hk⟩
        have hK6 := Hd.mk (hK5.out.ext hk)
        clear hk hsl
        obtain ⟨y, hy⟩ : ∃ z, (decRec ((frameB ⟨lsn, epoch, kind, page, other, req, key, value⟩).set q v)).2.2 = z := ⟨_, rfl⟩
        have hbad2 := hbad.out
        rw [hy] at hbad2
        have hy1 : (y != 0) = true := by simpa using hbad2
        rw [(decRec_none hbad.out).1, (decRec_none hbad.out).2, hy]
        clear hy hbad hbad2
        simp only [rcV, zRc]
        go_upto_region 13 with fail
        obtain ⟨W7, hW⟩ : ∃ W, w6.alloc (.cells #[.int .i64 0, .int .i64 0, .int .i64 0, .int .i64 0, .int .i64 0, .int .i64 0, .string ⟨#[]⟩, .string ⟨#[]⟩] 46) = W := ⟨_, rfl⟩
        have hcy := Hd.mk (Rx.first (⟨0, 0, 0, 0, 0, 0, ⟨#[]⟩, ⟨#[]⟩⟩ : Rc) hW)
        rw [hW]
        clear hW
        obtain ⟨gy, hg⟩ : ∃ g, w6.heap.size = g := ⟨_, rfl⟩
        rw [hg] at hcy ⊢
        clear hg
        have hK7 := Hd.mk (hK6.out.ext hcy.out.ext)
        obtain ⟨hd0, hd1, hd2, hd3, hd4, hd5, hd6, hd7⟩ := rc_facts hcy.out.box
        go_wp2_with fail
        refine (speaks9_any W7).mono ?_
        rintro e w8 ⟨rfl, hk⟩
        have hk8 := Hd.mk hk
        clear hk
        go_wp2_with fail
        exact hR.out _ _ ⟨rfl, hK7.out.ext hk8.out⟩
      · as_aux_lemma =>
        have h20 : decide (at_ < 0) = false := by simp; omega
        have h21 : decide (8 * (N : Int) ≤ at_) = true := by simpa using h1
        have hqN : Hd (0 < N) := ⟨by have := hlen.out; omega⟩
        obtain ⟨hsj, hcutj⟩ := cut_to Try.E8 hs1.out j (by have := hjN.out; omega)
        go_wp2_with fail
        refine (rdecode_any A1 j c1 ((frameB ⟨lsn, epoch, kind, page, other, req, key, value⟩).take j) w1 hsj.out (by have := hjN.out; have := hlen.out; omega)).mono ?_
        rintro e w2 ⟨rfl, hk⟩
        rw [hdcut.out]
        have hk2 := Hd.mk (hk1.out.then' hk)
        have hs2 := Hd.mk (hs1.out.ext hk)
        clear hk hsj hcutj
        simp only [rcV, zRc]
        go_upto_region 10 with fail
        obtain ⟨w3, hW⟩ : ∃ W, w2.alloc (.cells #[.int .i64 0, .int .i64 0, .int .i64 0, .int .i64 0, .int .i64 0, .int .i64 0, .string ⟨#[]⟩, .string ⟨#[]⟩] 46) = W := ⟨_, rfl⟩
        have hk3 : Hd (Ext w2 w3) := ⟨by rw [← hW]; exact (ext_refl w2).alloc _⟩
        rw [hW]
        clear hW
        have hs3 := Hd.mk (hs2.out.ext hk3.out)
        have hK3 := Hd.mk (hk2.out.then' hk3.out)
        clear hs2 hk2 hk3
        go_wp2_with (at_builtin; refine wp_app Try.E8 rfl _ _ rfl (B := w3.heap.size) (xs := []) rfl ⟨rfl, .inl ⟨rfl, rfl⟩⟩ rfl hs3.out ?c1 ?c2 ?c3 ?_)
        case c1 => have := hlen.out; omega
        case c2 => have := hlen.out; omega
        case c3 => omega
        intro A4 c4 w4 ho4 hk4 _
        have hk4 : Ext w3 w4 := hk4.weaken (fun _ _ h => absurd rfl h.1)
        have hK4 := Hd.mk (hK3.out.ext hk4)
        have ho4 : Own enc8 1 5 w3.heap.size w4 A4 N c4 (frameB ⟨lsn, epoch, kind, page, other, req, key, value⟩) := by simpa using ho4
        obtain ⟨gp, cur, hA, hgp, hrow, hnc, hcm, hcs, htake⟩ := ho4.row.resolve_left (by have := hlen.out; omega)
        subst hA
        have hgp := Hd.mk (Nat.le_trans hK3.out.size hgp)
        rw [Nat.mul_one] at htake
        clear hk4 ho4 hcs hs3
        obtain ⟨x, hx⟩ : ∃ x, (frameB ⟨lsn, epoch, kind, page, other, req, key, value⟩)[0]? = some x := ⟨_, List.getElem?_eq_getElem (by have := hN.out; have := hqN.out; omega)⟩
        have hcx := own_cell hrow htake hx hN.out
        have hfz : w4.frozen? ⟨gp, 0, none⟩ = false := by simp [World.frozen?, hrow]
        obtain ⟨v, hval, hne⟩ := bit_turn x 0 (by omega)
        have hval : bits BinOp.xor IntKind.u8 (x.toNat : Int) 1 = (v.toNat : Int) := hval
        have hbad := Hd.mk (decRec_turned F.out hx hne)
        have hsl := Hd.mk (sl_set (j := 0) hrow hN.out hnc (by simp only [maxLen] at hcm; omega) htake v)
        have hK5 : Hd (Ext w (w4.setCell ⟨gp, 0, none⟩ (.int .u8 (v.toNat : Int)))) := ⟨hK4.out.setCell (p := ⟨gp, 0, none⟩) (fun h => by have := hgp.out; simp only at h; omega) _⟩
        have hrow := Hd.mk hrow
        have htake := Hd.mk htake
        clear hne hx
        go_upto_region 12 with fail
        obtain ⟨w5, hw5⟩ : ∃ w5, w4.setCell ⟨gp, 0, none⟩ (.int .u8 (v.toNat : Int)) = w5 := ⟨_, rfl⟩
        rw [hw5] at hsl hK5 ⊢
        clear hw5 hcx hfz
        go_wp2_with fail
        refine (rdecode_any (some ⟨gp, 0, none⟩) N c4 _ w5 hsl.out (by have := hlen.out; omega)).mono ?_
        rintro e w6 ⟨rfl, hk⟩
        have hK6 := Hd.mk (hK5.out.ext hk)
        clear hk hsl
        obtain ⟨y, hy⟩ : ∃ z, (decRec ((frameB ⟨lsn, epoch, kind, page, other, req, key, value⟩).set 0 v)).2.2 = z := ⟨_, rfl⟩
        have hbad2 := hbad.out
        rw [hy] at hbad2
        have hy1 : (y != 0) = true := by simpa using hbad2
        rw [(decRec_none hbad.out).1, (decRec_none hbad.out).2, hy]
        clear hy hbad hbad2
        simp only [rcV, zRc]
        go_upto_region 13 with fail
        obtain ⟨W7, hW⟩ : ∃ W, w6.alloc (.cells #[.int .i64 0, .int .i64 0, .int .i64 0, .int .i64 0, .int .i64 0, .int .i64 0, .string ⟨#[]⟩, .string ⟨#[]⟩] 46) = W := ⟨_, rfl⟩
        have hcy := Hd.mk (Rx.first (⟨0, 0, 0, 0, 0, 0, ⟨#[]⟩, ⟨#[]⟩⟩ : Rc) hW)
        rw [hW]
        clear hW
        obtain ⟨gy, hg⟩ : ∃ g, w6.heap.size = g := ⟨_, rfl⟩
        rw [hg] at hcy ⊢
        clear hg
        have hK7 := Hd.mk (hK6.out.ext hcy.out.ext)
        obtain ⟨hd0, hd1, hd2, hd3, hd4, hd5, hd6, hd7⟩ := rc_facts hcy.out.box
        go_wp2_with fail
        refine (speaks9_any W7).mono ?_
        rintro e w8 ⟨rfl, hk⟩
        have hk8 := Hd.mk hk
        clear hk
        go_wp2_with fail
        exact hR.out _ _ ⟨rfl, hK7.out.ext hk8.out⟩
    · have hc0 : decide (cut < 0) = false := by simp; omega
      have hc1 : decide ((N : Int) ≤ cut) = true := by simpa using h3
      obtain ⟨j, hjq⟩ : ∃ j : Nat, (N : Int) - 1 = (j : Int) := ⟨N - 1, by omega⟩
      have hjN : Hd (j < N) := ⟨by omega⟩
      have hdcut := Hd.mk (hcutall.out j hjN.out)
      have hat3 : at_ < 0 ∨ (0 ≤ at_ ∧ at_ < 8 * (N : Int)) ∨ 8 * (N : Int) ≤ at_ := by omega
      rcases hat3 with h1 | h1 | h1
      · as_aux_lemma =>
        have h20 : decide (at_ < 0) = true := by simpa using h1
        have hqN : Hd (0 < N) := ⟨by have := hlen.out; omega⟩
        obtain ⟨hsj, hcutj⟩ := cut_to Try.E8 hs1.out j (by have := hjN.out; omega)
        go_wp2_with fail
        refine (rdecode_any A1 j c1 ((frameB ⟨lsn, epoch, kind, page, other, req, key, value⟩).take j) w1 hsj.out (by have := hjN.out; have := hlen.out; omega)).mono ?_
        rintro e w2 ⟨rfl, hk⟩
        rw [hdcut.out]
        have hk2 := Hd.mk (hk1.out.then' hk)
        have hs2 := Hd.mk (hs1.out.ext hk)
        clear hk hsj hcutj
        simp only [rcV, zRc]
        go_upto_region 10 with fail
        obtain ⟨w3, hW⟩ : ∃ W, w2.alloc (.cells #[.int .i64 0, .int .i64 0, .int .i64 0, .int .i64 0, .int .i64 0, .int .i64 0, .string ⟨#[]⟩, .string ⟨#[]⟩] 46) = W := ⟨_, rfl⟩
        have hk3 : Hd (Ext w2 w3) := ⟨by rw [← hW]; exact (ext_refl w2).alloc _⟩
        rw [hW]
        clear hW
        have hs3 := Hd.mk (hs2.out.ext hk3.out)
        have hK3 := Hd.mk (hk2.out.then' hk3.out)
        clear hs2 hk2 hk3
        go_wp2_with (at_builtin; refine wp_app Try.E8 rfl _ _ rfl (B := w3.heap.size) (xs := []) rfl ⟨rfl, .inl ⟨rfl, rfl⟩⟩ rfl hs3.out ?c1 ?c2 ?c3 ?_)
        case c1 => have := hlen.out; omega
        case c2 => have := hlen.out; omega
        case c3 => omega
        intro A4 c4 w4 ho4 hk4 _
        have hk4 : Ext w3 w4 := hk4.weaken (fun _ _ h => absurd rfl h.1)
        have hK4 := Hd.mk (hK3.out.ext hk4)
        have ho4 : Own enc8 1 5 w3.heap.size w4 A4 N c4 (frameB ⟨lsn, epoch, kind, page, other, req, key, value⟩) := by simpa using ho4
        obtain ⟨gp, cur, hA, hgp, hrow, hnc, hcm, hcs, htake⟩ := ho4.row.resolve_left (by have := hlen.out; omega)
        subst hA
        have hgp := Hd.mk (Nat.le_trans hK3.out.size hgp)
        rw [Nat.mul_one] at htake
        clear hk4 ho4 hcs hs3
        obtain ⟨x, hx⟩ : ∃ x, (frameB ⟨lsn, epoch, kind, page, other, req, key, value⟩)[0]? = some x := ⟨_, List.getElem?_eq_getElem (by have := hN.out; have := hqN.out; omega)⟩
        have hcx := own_cell hrow htake hx hN.out
        have hfz : w4.frozen? ⟨gp, 0, none⟩ = false := by simp [World.frozen?, hrow]
        obtain ⟨v, hval, hne⟩ := bit_turn x 0 (by omega)
        have hval : bits BinOp.xor IntKind.u8 (x.toNat : Int) 1 = (v.toNat : Int) := hval
        have hbad := Hd.mk (decRec_turned F.out hx hne)
        have hsl := Hd.mk (sl_set (j := 0) hrow hN.out hnc (by simp only [maxLen] at hcm; omega) htake v)
        have hK5 : Hd (Ext w (w4.setCell ⟨gp, 0, none⟩ (.int .u8 (v.toNat : Int)))) := ⟨hK4.out.setCell (p := ⟨gp, 0, none⟩) (fun h => by have := hgp.out; simp only at h; omega) _⟩
        have hrow := Hd.mk hrow
        have htake := Hd.mk htake
        clear hne hx
        go_upto_region 12 with fail
        obtain ⟨w5, hw5⟩ : ∃ w5, w4.setCell ⟨gp, 0, none⟩ (.int .u8 (v.toNat : Int)) = w5 := ⟨_, rfl⟩
        rw [hw5] at hsl hK5 ⊢
        clear hw5 hcx hfz
        go_wp2_with fail
        refine (rdecode_any (some ⟨gp, 0, none⟩) N c4 _ w5 hsl.out (by have := hlen.out; omega)).mono ?_
        rintro e w6 ⟨rfl, hk⟩
        have hK6 := Hd.mk (hK5.out.ext hk)
        clear hk hsl
        obtain ⟨y, hy⟩ : ∃ z, (decRec ((frameB ⟨lsn, epoch, kind, page, other, req, key, value⟩).set 0 v)).2.2 = z := ⟨_, rfl⟩
        have hbad2 := hbad.out
        rw [hy] at hbad2
        have hy1 : (y != 0) = true := by simpa using hbad2
        rw [(decRec_none hbad.out).1, (decRec_none hbad.out).2, hy]
        clear hy hbad hbad2
        simp only [rcV, zRc]
        go_upto_region 13 with fail
        obtain ⟨W7, hW⟩ : ∃ W, w6.alloc (.cells #[.int .i64 0, .int .i64 0, .int .i64 0, .int .i64 0, .int .i64 0, .int .i64 0, .string ⟨#[]⟩, .string ⟨#[]⟩] 46) = W := ⟨_, rfl⟩
        have hcy := Hd.mk (Rx.first (⟨0, 0, 0, 0, 0, 0, ⟨#[]⟩, ⟨#[]⟩⟩ : Rc) hW)
        rw [hW]
        clear hW
        obtain ⟨gy, hg⟩ : ∃ g, w6.heap.size = g := ⟨_, rfl⟩
        rw [hg] at hcy ⊢
        clear hg
        have hK7 := Hd.mk (hK6.out.ext hcy.out.ext)
        obtain ⟨hd0, hd1, hd2, hd3, hd4, hd5, hd6, hd7⟩ := rc_facts hcy.out.box
        go_wp2_with fail
        refine (speaks9_any W7).mono ?_
        rintro e w8 ⟨rfl, hk⟩
        have hk8 := Hd.mk hk
        clear hk
        go_wp2_with fail
        exact hR.out _ _ ⟨rfl, hK7.out.ext hk8.out⟩
      · as_aux_lemma =>
        obtain ⟨q, hq⟩ : ∃ q : Nat, at_ / 8 = (q : Int) := ⟨(at_ / 8).toNat, by omega⟩
        obtain ⟨kk, hkk⟩ : ∃ kk : Nat, at_ % 8 = (kk : Int) := ⟨(at_ % 8).toNat, by omega⟩
        have hqb : (q : Int) < (N : Int) := by omega
        have hkb : (kk : Int) < 8 := by omega
        have hqN : Hd (q < N) := ⟨by omega⟩
        have h10 : 0 ≤ at_ := h1.1
        have h11 : at_ < 8 * (N : Int) := h1.2
        clear h1
        obtain ⟨hsj, hcutj⟩ := cut_to Try.E8 hs1.out j (by have := hjN.out; omega)
        go_wp2_with fail
        refine (rdecode_any A1 j c1 ((frameB ⟨lsn, epoch, kind, page, other, req, key, value⟩).take j) w1 hsj.out (by have := hjN.out; have := hlen.out; omega)).mono ?_
        rintro e w2 ⟨rfl, hk⟩
        rw [hdcut.out]
        have hk2 := Hd.mk (hk1.out.then' hk)
        have hs2 := Hd.mk (hs1.out.ext hk)
        clear hk hsj hcutj
        simp only [rcV, zRc]
        go_upto_region 10 with fail
        obtain ⟨w3, hW⟩ : ∃ W, w2.alloc (.cells #[.int .i64 0, .int .i64 0, .int .i64 0, .int .i64 0, .int .i64 0, .int .i64 0, .string ⟨#[]⟩, .string ⟨#[]⟩] 46) = W := ⟨_, rfl⟩
        have hk3 : Hd (Ext w2 w3) := ⟨by rw [← hW]; exact (ext_refl w2).alloc _⟩
        rw [hW]
        clear hW
        have hs3 := Hd.mk (hs2.out.ext hk3.out)
        have hK3 := Hd.mk (hk2.out.then' hk3.out)
        clear hs2 hk2 hk3
        go_wp2_with (at_builtin; refine wp_app Try.E8 rfl _ _ rfl (B := w3.heap.size) (xs := []) rfl ⟨rfl, .inl ⟨rfl, rfl⟩⟩ rfl hs3.out ?c1 ?c2 ?c3 ?_)
        case c1 => have := hlen.out; omega
        case c2 => have := hlen.out; omega
        case c3 => omega
        intro A4 c4 w4 ho4 hk4 _
        have hk4 : Ext w3 w4 := hk4.weaken (fun _ _ h => absurd rfl h.1)
        have hK4 := Hd.mk (hK3.out.ext hk4)
        have ho4 : Own enc8 1 5 w3.heap.size w4 A4 N c4 (frameB ⟨lsn, epoch, kind, page, other, req, key, value⟩) := by simpa using ho4
        obtain ⟨gp, cur, hA, hgp, hrow, hnc, hcm, hcs, htake⟩ := ho4.row.resolve_left (by have := hlen.out; omega)
        subst hA
        have hgp := Hd.mk (Nat.le_trans hK3.out.size hgp)
        rw [Nat.mul_one] at htake
        clear hk4 ho4 hcs hs3
        obtain ⟨x, hx⟩ : ∃ x, (frameB ⟨lsn, epoch, kind, page, other, req, key, value⟩)[q]? = some x := ⟨_, List.getElem?_eq_getElem (by have := hN.out; have := hqN.out; omega)⟩
        have hcx := own_cell hrow htake hx hN.out
        have hfz : w4.frozen? ⟨gp, q, none⟩ = false := by simp [World.frozen?, hrow]
        obtain ⟨v, hval, hne⟩ := bit_turn x kk (by omega)
        have hbad := Hd.mk (decRec_turned F.out hx hne)
        have hsl := Hd.mk (sl_set (j := q) hrow hN.out hnc (by simp only [maxLen] at hcm; omega) htake v)
        have hK5 : Hd (Ext w (w4.setCell ⟨gp, q, none⟩ (.int .u8 (v.toNat : Int)))) := ⟨hK4.out.setCell (p := ⟨gp, q, none⟩) (fun h => by have := hgp.out; simp only at h; omega) _⟩
        have hrow := Hd.mk hrow
        have htake := Hd.mk htake
        clear hne hx
        go_upto_region 12 with fail
        obtain ⟨w5, hw5⟩ : ∃ w5, w4.setCell ⟨gp, q, none⟩ (.int .u8 (v.toNat : Int)) = w5 := ⟨_, rfl⟩
        rw [hw5] at hsl hK5 ⊢
        clear hw5 hcx hfz
        go_wp2_with fail
        refine (rdecode_any (some ⟨gp, 0, none⟩) N c4 _ w5 hsl.out (by have := hlen.out; omega)).mono ?_
        rintro e w6 ⟨rfl, hk⟩
        have hK6 := Hd.mk (hK5.out.ext hk)
        clear hk hsl
        obtain ⟨y, hy⟩ : ∃ z, (decRec ((frameB ⟨lsn, epoch, kind, page, other, req, key, value⟩).set q v)).2.2 = z := ⟨_, rfl⟩
        have hbad2 := hbad.out
        rw [hy] at hbad2
        have hy1 : (y != 0) = true := by simpa using hbad2
        rw [(decRec_none hbad.out).1, (decRec_none hbad.out).2, hy]
        clear hy hbad hbad2
        simp only [rcV, zRc]
        go_upto_region 13 with fail
        obtain ⟨W7, hW⟩ : ∃ W, w6.alloc (.cells #[.int .i64 0, .int .i64 0, .int .i64 0, .int .i64 0, .int .i64 0, .int .i64 0, .string ⟨#[]⟩, .string ⟨#[]⟩] 46) = W := ⟨_, rfl⟩
        have hcy := Hd.mk (Rx.first (⟨0, 0, 0, 0, 0, 0, ⟨#[]⟩, ⟨#[]⟩⟩ : Rc) hW)
        rw [hW]
        clear hW
        obtain ⟨gy, hg⟩ : ∃ g, w6.heap.size = g := ⟨_, rfl⟩
        rw [hg] at hcy ⊢
        clear hg
        have hK7 := Hd.mk (hK6.out.ext hcy.out.ext)
        obtain ⟨hd0, hd1, hd2, hd3, hd4, hd5, hd6, hd7⟩ := rc_facts hcy.out.box
        go_wp2_with fail
        refine (speaks9_any W7).mono ?_
        rintro e w8 ⟨rfl, hk⟩
        have hk8 := Hd.mk hk
        clear hk
        go_wp2_with fail
        exact hR.out _ _ ⟨rfl, hK7.out.ext hk8.out⟩
      · as_aux_lemma =>
        have h20 : decide (at_ < 0) = false := by simp; omega
        have h21 : decide (8 * (N : Int) ≤ at_) = true := by simpa using h1
        have hqN : Hd (0 < N) := ⟨by have := hlen.out; omega⟩
        obtain ⟨hsj, hcutj⟩ := cut_to Try.E8 hs1.out j (by have := hjN.out; omega)
        go_wp2_with fail
        refine (rdecode_any A1 j c1 ((frameB ⟨lsn, epoch, kind, page, other, req, key, value⟩).take j) w1 hsj.out (by have := hjN.out; have := hlen.out; omega)).mono ?_
        rintro e w2 ⟨rfl, hk⟩
        rw [hdcut.out]
        have hk2 := Hd.mk (hk1.out.then' hk)
        have hs2 := Hd.mk (hs1.out.ext hk)
        clear hk hsj hcutj
        simp only [rcV, zRc]
        go_upto_region 10 with fail
        obtain ⟨w3, hW⟩ : ∃ W, w2.alloc (.cells #[.int .i64 0, .int .i64 0, .int .i64 0, .int .i64 0, .int .i64 0, .int .i64 0, .string ⟨#[]⟩, .string ⟨#[]⟩] 46) = W := ⟨_, rfl⟩
        have hk3 : Hd (Ext w2 w3) := ⟨by rw [← hW]; exact (ext_refl w2).alloc _⟩
        rw [hW]
        clear hW
        have hs3 := Hd.mk (hs2.out.ext hk3.out)
        have hK3 := Hd.mk (hk2.out.then' hk3.out)
        clear hs2 hk2 hk3
        go_wp2_with (at_builtin; refine wp_app Try.E8 rfl _ _ rfl (B := w3.heap.size) (xs := []) rfl ⟨rfl, .inl ⟨rfl, rfl⟩⟩ rfl hs3.out ?c1 ?c2 ?c3 ?_)
        case c1 => have := hlen.out; omega
        case c2 => have := hlen.out; omega
        case c3 => omega
        intro A4 c4 w4 ho4 hk4 _
        have hk4 : Ext w3 w4 := hk4.weaken (fun _ _ h => absurd rfl h.1)
        have hK4 := Hd.mk (hK3.out.ext hk4)
        have ho4 : Own enc8 1 5 w3.heap.size w4 A4 N c4 (frameB ⟨lsn, epoch, kind, page, other, req, key, value⟩) := by simpa using ho4
        obtain ⟨gp, cur, hA, hgp, hrow, hnc, hcm, hcs, htake⟩ := ho4.row.resolve_left (by have := hlen.out; omega)
        subst hA
        have hgp := Hd.mk (Nat.le_trans hK3.out.size hgp)
        rw [Nat.mul_one] at htake
        clear hk4 ho4 hcs hs3
        obtain ⟨x, hx⟩ : ∃ x, (frameB ⟨lsn, epoch, kind, page, other, req, key, value⟩)[0]? = some x := ⟨_, List.getElem?_eq_getElem (by have := hN.out; have := hqN.out; omega)⟩
        have hcx := own_cell hrow htake hx hN.out
        have hfz : w4.frozen? ⟨gp, 0, none⟩ = false := by simp [World.frozen?, hrow]
        obtain ⟨v, hval, hne⟩ := bit_turn x 0 (by omega)
        have hval : bits BinOp.xor IntKind.u8 (x.toNat : Int) 1 = (v.toNat : Int) := hval
        have hbad := Hd.mk (decRec_turned F.out hx hne)
        have hsl := Hd.mk (sl_set (j := 0) hrow hN.out hnc (by simp only [maxLen] at hcm; omega) htake v)
        have hK5 : Hd (Ext w (w4.setCell ⟨gp, 0, none⟩ (.int .u8 (v.toNat : Int)))) := ⟨hK4.out.setCell (p := ⟨gp, 0, none⟩) (fun h => by have := hgp.out; simp only at h; omega) _⟩
        have hrow := Hd.mk hrow
        have htake := Hd.mk htake
        clear hne hx
        go_upto_region 12 with fail
        obtain ⟨w5, hw5⟩ : ∃ w5, w4.setCell ⟨gp, 0, none⟩ (.int .u8 (v.toNat : Int)) = w5 := ⟨_, rfl⟩
        rw [hw5] at hsl hK5 ⊢
        clear hw5 hcx hfz
        go_wp2_with fail
        refine (rdecode_any (some ⟨gp, 0, none⟩) N c4 _ w5 hsl.out (by have := hlen.out; omega)).mono ?_
        rintro e w6 ⟨rfl, hk⟩
        have hK6 := Hd.mk (hK5.out.ext hk)
        clear hk hsl
        obtain ⟨y, hy⟩ : ∃ z, (decRec ((frameB ⟨lsn, epoch, kind, page, other, req, key, value⟩).set 0 v)).2.2 = z := ⟨_, rfl⟩
        have hbad2 := hbad.out
        rw [hy] at hbad2
        have hy1 : (y != 0) = true := by simpa using hbad2
        rw [(decRec_none hbad.out).1, (decRec_none hbad.out).2, hy]
        clear hy hbad hbad2
        simp only [rcV, zRc]
        go_upto_region 13 with fail
        obtain ⟨W7, hW⟩ : ∃ W, w6.alloc (.cells #[.int .i64 0, .int .i64 0, .int .i64 0, .int .i64 0, .int .i64 0, .int .i64 0, .string ⟨#[]⟩, .string ⟨#[]⟩] 46) = W := ⟨_, rfl⟩
        have hcy := Hd.mk (Rx.first (⟨0, 0, 0, 0, 0, 0, ⟨#[]⟩, ⟨#[]⟩⟩ : Rc) hW)
        rw [hW]
        clear hW
        obtain ⟨gy, hg⟩ : ∃ g, w6.heap.size = g := ⟨_, rfl⟩
        rw [hg] at hcy ⊢
        clear hg
        have hK7 := Hd.mk (hK6.out.ext hcy.out.ext)
        obtain ⟨hd0, hd1, hd2, hd3, hd4, hd5, hd6, hd7⟩ := rc_facts hcy.out.box
        go_wp2_with fail
        refine (speaks9_any W7).mono ?_
        rintro e w8 ⟨rfl, hk⟩
        have hk8 := Hd.mk hk
        clear hk
        go_wp2_with fail
        exact hR.out _ _ ⟨rfl, hK7.out.ext hk8.out⟩
end Go.Proofs.Ythpfkdaijiaalaa
