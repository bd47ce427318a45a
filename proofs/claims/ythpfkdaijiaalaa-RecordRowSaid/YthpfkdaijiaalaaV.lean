/- A node's page is written: by definition. -/
import Derived.Test.YthpfkdaijiaalaaU
import Derived.Test.YthpfkdaijiaalaaR
namespace Go.Proofs.Ythpfkdaijiaalaa
open Go.RowKit

theorem addr_zero (ad : Addr) : ad.add 0 = ad := by cases ad; unfold Addr.add; simp
/-- Where the definition's bytes stand. -/
structure Sb (w V : World) (B : Nat) (o : Obj) (A : Option Addr) (n c : Nat) (bs : List UInt8) : Prop where
  ext : Ext w V
  box : V.heap[w.heap.size]? = some o
  own : Own enc8 1 5 B V A n c bs
  lt : w.heap.size < B
  ge : B ≤ V.heap.size
theorem Sb.app {w V V1 V2 : World} {B : Nat} {o : Obj} {A A' : Option Addr} {n c n' c' : Nat} {bs bs' : List UInt8} (h : Sb w V B o A n c bs) (hk : Ext V V1) (ho : Own enc8 1 5 B V2 A' n' c' bs') (hk2 : Keep (foot A c) V1 V2) : Sb w V2 B o A' n' c' bs' := by
  have hge : ∀ k, foot A c k → B ≤ k := fun k hf => (h.own.ge hf).1
  refine ⟨(h.ext.then' hk).trans hk2 (fun k hk' hf => by have := hge k hf; have := h.lt; omega), hk2.blk (hk.blk h.box id) (fun hf => by have := hge _ hf; have := h.lt; omega), ho, h.lt, ?_⟩
  exact Nat.le_trans h.ge (Nat.le_trans hk.size hk2.size)

set_option maxRecDepth 100000 in
set_option maxHeartbeats 4000000 in
theorem refencode_any (n : Nd) (A4 : Option Addr) (n4 c4 : Nat) (A5 : Option Addr) (n5 c5 : Nat) (A6 : Option Addr) (n6 c6 : Nat) (w : World) (h : NdAt w n A4 n4 c4 A5 n5 c5 A6 n6 c6) :
    Calls Try.prog 31 #[ndV n A4 n4 c4 A5 n5 c5 A6 n6 c6] w (RetEnc w n) := by
  refine hide_post fun R hR => ?_
  have H := Hd.mk h; clear h
  have l4 := Hd.mk H.out.keys.len
  have l5 := Hd.mk H.out.vals.len
  have l6 := Hd.mk H.out.kids.len
  have hfit : Hd (okB n = true → Fit n) := ⟨fun h => okB_fit h (by have := H.out.b4; have := l4.out; omega)⟩
  obtain ⟨level, lsn, right, high, keys, vals, kids⟩ := n
  simp only [ndV]
  cases hok : okB ⟨level, lsn, right, high, keys, vals, kids⟩ with
  | false =>
    have hok := Hd.mk hok
    go_enter Try.func31, Try.ntmps31
    go_wp2_with fail
    obtain ⟨W, hW, hk, hc0, hc1, hc2, hc3, hc4, hc5, hc6, hb⟩ := nd_box w level lsn right high A4 n4 c4 A5 n5 c5 A6 n6 c6
    rw [hW]
    clear hW
    refine (right_any _ _ _ _ _ _ _ _ _ _ _ (H.out.ext hk.out)).mono ?_
    rintro e W2 ⟨rfl, hk2⟩
    have hk2 := Hd.mk hk2
    rw [hok.out]
    go_wp2_with fail
    exact hR.out _ _ ⟨hk.out.then' hk2.out, fun h => (by rw [hok.out] at h; cases h), fun _ => rfl⟩
  | true =>
    have F := Hd.mk (hfit.out hok)
    have hok := Hd.mk hok
    clear hfit
    go_enter Try.func31, Try.ntmps31
    go_wp2_with fail
    obtain ⟨W, hW, hk, hc0, hc1, hc2, hc3, hc4, hc5, hc6, hb⟩ := nd_box w level lsn right high A4 n4 c4 A5 n5 c5 A6 n6 c6
    rw [hW]
    clear hW
    refine (right_any _ _ _ _ _ _ _ _ _ _ _ (H.out.ext hk.out)).mono ?_
    rintro e W2 ⟨rfl, hk2⟩
    rw [hok.out]
    have hb2 := hk2.blk hb id
    have hk2 := Hd.mk hk2
    obtain ⟨B, hB⟩ : ∃ B, W2.heap.size = B := ⟨_, rfl⟩
    have hst0 : Hd (Sb w W2 B (.cells #[.int .i64 level, .int .i64 lsn, .int .i64 right, .string high, .slice A4 n4 c4, .slice A5 n5 c5, .slice A6 n6 c6] 25 (0, 0)) none 0 0 []) := ⟨⟨hk.out.then' hk2.out, hb2, Own.nil_ _ _ _ _ _, by have := (Array.getElem?_eq_some_iff.1 hb2).1; omega, by omega⟩⟩
    have F0 := F.out.level0
    have F1 := F.out.level
    have F2 := F.out.lsn0
    have F3 := F.out.lsn
    have F4 := F.out.right0
    have F5 := F.out.right
    have F6 := F.out.many.1
    have F7 := F.out.high
    (try simp only at F0 F1 F2 F3 F4 F5 F6 F7)
    have l4' := l4.out
    (try simp only at l4')
    clear hb2 hb hc0 hc1 hc2 hc3 hc4 hc5 hc6
    obtain ⟨hc0, hc1, hc2, hc3, hc4, hc5, hc6⟩ := nd_facts hst0.out.box
    go_wp2_with fail
    refine (refnum_any level 1 (by omega) F0 (by omega) _).mono ?_
    rintro e V1 ⟨A2, c2, rfl, ho2, hk2⟩
    rw [leB_len] at ho2 ⊢
    have ho2 := Hd.mk ho2
    have hk2 := Hd.mk hk2
    go_wp2_with (at_builtin; refine wp_app Try.E8 rfl _ _ rfl rfl (hst0.out.own.ext hk2.out) rfl ho2.out.sl ?e1a ?e1b ?e1c ?_)
    case e1a => omega
    case e1b => omega
    case e1c => exact Nat.le_trans hst0.out.ge hk2.out.size
    intro A1 c1 V2 ho1 hk1 _
    have hst1 := Hd.mk (hst0.out.app hk2.out ho1 hk1)
    clear ho1 hk1 ho2 hk2 hc0 hc1 hc2 hc3 hc4 hc5 hc6
    obtain ⟨hc0, hc1, hc2, hc3, hc4, hc5, hc6⟩ := nd_facts hst1.out.box
    go_wp2_with fail
    refine (refnum_any lsn 8 (by omega) F2 (by omega) _).mono ?_
    rintro e V1 ⟨A2, c2, rfl, ho2, hk2⟩
    rw [leB_len] at ho2 ⊢
    have ho2 := Hd.mk ho2
    have hk2 := Hd.mk hk2
    go_wp2_with (at_builtin; refine wp_app Try.E8 rfl _ _ rfl rfl (hst1.out.own.ext hk2.out) rfl ho2.out.sl ?e2a ?e2b ?e2c ?_)
    case e2a => omega
    case e2b => omega
    case e2c => exact Nat.le_trans hst1.out.ge hk2.out.size
    intro A1 c1 V2 ho1 hk1 _
    have hst2 := Hd.mk (hst1.out.app hk2.out ho1 hk1)
    clear ho1 hk1 ho2 hk2 hc0 hc1 hc2 hc3 hc4 hc5 hc6
    obtain ⟨hc0, hc1, hc2, hc3, hc4, hc5, hc6⟩ := nd_facts hst2.out.box
    go_wp2_with fail
    refine (refnum_any right 4 (by omega) F4 (by omega) _).mono ?_
    rintro e V1 ⟨A2, c2, rfl, ho2, hk2⟩
    rw [leB_len] at ho2 ⊢
    have ho2 := Hd.mk ho2
    have hk2 := Hd.mk hk2
    go_wp2_with (at_builtin; refine wp_app Try.E8 rfl _ _ rfl rfl (hst2.out.own.ext hk2.out) rfl ho2.out.sl ?e3a ?e3b ?e3c ?_)
    case e3a => omega
    case e3b => omega
    case e3c => exact Nat.le_trans hst2.out.ge hk2.out.size
    intro A1 c1 V2 ho1 hk1 _
    have hst3 := Hd.mk (hst2.out.app hk2.out ho1 hk1)
    clear ho1 hk1 ho2 hk2 hc0 hc1 hc2 hc3 hc4 hc5 hc6
    obtain ⟨hc0, hc1, hc2, hc3, hc4, hc5, hc6⟩ := nd_facts hst3.out.box
    go_wp2_with fail
    refine (refnum_any n4 2 (by omega) (by omega) (by omega) _).mono ?_
    rintro e V1 ⟨A2, c2, rfl, ho2, hk2⟩
    rw [leB_len] at ho2 ⊢
    have ho2 := Hd.mk ho2
    have hk2 := Hd.mk hk2
    go_wp2_with (at_builtin; refine wp_app Try.E8 rfl _ _ rfl rfl (hst3.out.own.ext hk2.out) rfl ho2.out.sl ?e4a ?e4b ?e4c ?_)
    case e4a => omega
    case e4b => omega
    case e4c => exact Nat.le_trans hst3.out.ge hk2.out.size
    intro A1 c1 V2 ho1 hk1 _
    have hst4 := Hd.mk (hst3.out.app hk2.out ho1 hk1)
    clear ho1 hk1 ho2 hk2 hc0 hc1 hc2 hc3 hc4 hc5 hc6
    obtain ⟨hc0, hc1, hc2, hc3, hc4, hc5, hc6⟩ := nd_facts hst4.out.box
    go_wp2_with fail
    refine (reftext_any high (by omega) _).mono ?_
    rintro e V1 ⟨A2, c2, rfl, ho2, hk2⟩
    rw [textB_len] at ho2 ⊢
    have ho2 := Hd.mk ho2
    have hk2 := Hd.mk hk2
    go_wp2_with (at_builtin; refine wp_app Try.E8 rfl _ _ rfl rfl (hst4.out.own.ext hk2.out) rfl ho2.out.sl ?e5a ?e5b ?e5c ?_)
    case e5a => omega
    case e5b => omega
    case e5c => exact Nat.le_trans hst4.out.ge hk2.out.size
    intro A1 c1 V2 ho1 hk1 _
    have hst5 := Hd.mk (hst4.out.app hk2.out ho1 hk1)
    clear ho1 hk1 ho2 hk2 hc0 hc1 hc2 hc3 hc4 hc5 hc6
    obtain ⟨hc0, hc1, hc2, hc3, hc4, hc5, hc6⟩ := nd_facts hst5.out.box
    generalize hq : 15 + (2 + high.size) = q5 at hst5 ⊢
    have hq := Hd.mk hq
    have hst5 : Hd (Sb w V2 B (.cells #[.int .i64 level, .int .i64 lsn, .int .i64 right, .string high, .slice A4 n4 c4, .slice A5 n5 c5, .slice A6 n6 c6] 25 (0, 0)) A1 q5 c1 (headL ⟨level, lsn, right, high, keys, vals, kids⟩)) := ⟨by have := hst5.out; simpa [headL, l4'] using this⟩
    have hq5 : Hd (q5 ≤ 33) := ⟨by have := hst5.out.own.len; rw [Fit.head_len] at this; (try simp only at this); omega⟩
    by_cases hl : level = 0
    · subst hl
      have hkn : kids = [] := (F.out.leaf rfl).2.1
      subst hkn
      obtain rfl : n6 = 0 := by have := l6.out; simpa using this.symm
      go_wp2_with fail
      go_loopg [4, 49] n4 (fun k' v4 v49 wr => ∃ (i : Nat) (V : World) (A : Option Addr) (n c : Nat), V = wr ∧ Hd (i ≤ n4 ∧ k' = n4 - i) ∧ v49 = .int .i64 i ∧ v4 = .slice A n c ∧ Hd (Sb w V B (.cells #[.int .i64 0, .int .i64 lsn, .int .i64 right, .string high, .slice A4 n4 c4, .slice A5 n5 c5, .slice A6 0 c6] 25 (0, 0)) A n c (headL ⟨0, lsn, right, high, keys, vals, []⟩ ++ leafB keys vals i)))
      case atStart => exact ⟨0, _, _, _, _, rfl, ⟨by omega⟩, rfl, rfl, ⟨by simpa [leafB] using hst5.out⟩⟩
      case round =>
        obtain ⟨i, V, A, n, c, rfl, hi, rfl, rfl, hst⟩ := hrel
        clear hc0 hc1 hc2 hc3 hc4 hc5 hc6
        obtain ⟨hc0, hc1, hc2, hc3, hc4, hc5, hc6⟩ := nd_facts hst.out.box
        by_cases hlt : (i : Int) < (n4 : Int)
        · have hi117 : i ≤ 117 := by omega
          have hnl : Hd (n ≤ 7000) := ⟨by have h := hst.out.own.len; rw [List.length_append, Fit.head_len] at h; (try simp only at h); have := leafB_le (keys := keys) (vals := vals) (fun k hk => (F.out.keys k hk).2) (F.out.leaf rfl).2.2 i; omega⟩
          have hgp : keys[i]? = some (keys[i]'(by omega)) := List.getElem?_eq_getElem _
          obtain ⟨ad', rfl, hcell0⟩ := (H.out.ext hst.out.ext).keys.at_ (sz := 1) (fun _ => rfl) i _ hgp
          have hcellp := hcell0 0 _ rfl
          simp only [Nat.mul_one, Nat.add_zero] at hcellp
          clear hcell0
          have hks := (F.out.keys _ (List.mem_of_getElem? hgp)).2
          have htx := Hd.mk (txt_get hgp)
          generalize keys[i]'_ = kp at hgp hcellp hks htx
          go_wp2_with fail
          refine (reftext_any kp (by omega) _).mono ?_
          rintro e V1 ⟨A2, c2, rfl, ho2, hk2⟩
          rw [textB_len] at ho2 ⊢
          have ho2 := Hd.mk ho2
          have hk2 := Hd.mk hk2
          go_wp2_with (at_builtin; refine wp_app Try.E8 rfl _ _ rfl rfl (hst.out.own.ext hk2.out) rfl ho2.out.sl ?e6a ?e6b ?e6c ?_)
          case e6a => have := hnl.out; omega
          case e6b => have := hnl.out; omega
          case e6c => exact Nat.le_trans hst.out.ge hk2.out.size
          intro A1 c1 V2 ho1 hk1 _
          generalize hq : n + (2 + kp.size) = qa at ho1 ⊢
          have hq := Hd.mk hq
          have hsta := Hd.mk (hst.out.app hk2.out ho1 hk1)
          clear ho1 hk1 ho2 hk2 hc0 hc1 hc2 hc3 hc4 hc5 hc6
          obtain ⟨hc0, hc1, hc2, hc3, hc4, hc5, hc6⟩ := nd_facts hsta.out.box
          have hqa : Hd (qa ≤ 7018) := ⟨by have := hq.out; have := hnl.out; omega⟩
          clear hcellp
          have hg : vals[i]? = some (vals[i]'(by have := (F.out.leaf rfl).1; (try simp only at this); omega)) := List.getElem?_eq_getElem _
          obtain ⟨ad, rfl, hcell0⟩ := (H.out.ext hsta.out.ext).vals.at_ (sz := 1) (fun _ => rfl) i _ hg
          have hcell := hcell0 0 _ rfl
          simp only [Nat.mul_one, Nat.add_zero] at hcell
          clear hcell0
          have hvs := (F.out.leaf rfl).2.2 _ (List.mem_of_getElem? hg)
          have htv := Hd.mk (txt_get hg)
          have hwl : (i : Int) < (n5 : Int) := by have := (F.out.leaf rfl).1; have := l5.out; (try simp only at *); omega
          generalize vals[i]'_ = v at hg hcell hvs htv
          go_wp2_with fail
          refine (reftext_any v (by omega) _).mono ?_
          rintro e V1 ⟨A2, c2, rfl, ho2, hk2⟩
          rw [textB_len] at ho2 ⊢
          have ho2 := Hd.mk ho2
          have hk2 := Hd.mk hk2
          go_wp2_with (at_builtin; refine wp_app Try.E8 rfl _ _ rfl rfl (hsta.out.own.ext hk2.out) rfl ho2.out.sl ?e7a ?e7b ?e7c ?_)
          case e7a => have := hqa.out; omega
          case e7b => have := hqa.out; omega
          case e7c => exact Nat.le_trans hsta.out.ge hk2.out.size
          intro A1 c1 V2 ho1 hk1 _
          generalize hq : qa + (2 + v.size) = qb at ho1 ⊢
          have hq := Hd.mk hq
          have hstb := Hd.mk (hsta.out.app hk2.out ho1 hk1)
          clear ho1 hk1 ho2 hk2 hc0 hc1 hc2 hc3 hc4 hc5 hc6
          obtain ⟨hc0, hc1, hc2, hc3, hc4, hc5, hc6⟩ := nd_facts hstb.out.box
          go_wp2_with fail
          go_roundg (n4 - (i + 1))
          case measure => have := hi.out; omega
          case rel =>
            refine ⟨i + 1, _, _, _, _, rfl, ⟨by have := hi.out; omega⟩, by go_num, rfl, ⟨?_⟩⟩
            have e : (headL ⟨0, lsn, right, high, keys, vals, []⟩ ++ leafB keys vals (i + 1)) = (headL ⟨0, lsn, right, high, keys, vals, []⟩ ++ leafB keys vals i ++ textB kp) ++ textB v := by
              rw [leafB, htv.out, htx.out]; simp
            rw [e]; simpa only [List.append_assoc] using hstb.out
        · have hbs : Hd (headL ⟨0, lsn, right, high, keys, vals, []⟩ ++ leafB keys vals i = rawB ⟨0, lsn, right, high, keys, vals, []⟩) := ⟨by rw [rawB, bodyB, if_pos rfl]; simp only; rw [show i = vals.length by have := (F.out.leaf rfl).1; have := hi.out; (try simp only at *); omega]⟩
          have hst := Hd.mk (show Sb w V B (.cells #[.int .i64 0, .int .i64 lsn, .int .i64 right, .string high, .slice A4 n4 c4, .slice A5 n5 c5, .slice A6 0 c6] 25 (0, 0)) A n c (rawB ⟨0, lsn, right, high, keys, vals, []⟩) by rw [← hbs.out]; exact hst.out)
          have hrl : Hd ((rawB ⟨0, lsn, right, high, keys, vals, []⟩).length ≤ 252) := ⟨F.out.raw_le⟩
          generalize hraw0 : rawB ⟨0, lsn, right, high, keys, vals, []⟩ = raw at hst hrl
          have hraw := Hd.mk hraw0
          clear hbs hc0 hc1 hc2 hc3 hc4 hc5 hc6
          go_wp2_with fail
          go_loopg [4] (252 - n) (fun k' v4 wr => ∃ (z : Nat) (V' : World) (A' : Option Addr) (n' c' : Nat), V' = wr ∧ Hd (n' = raw.length + z ∧ n' ≤ 252 ∧ k' = 252 - n') ∧ v4 = .slice A' n' c' ∧ Hd (Sb w V' B (.cells #[.int .i64 0, .int .i64 lsn, .int .i64 right, .string high, .slice A4 n4 c4, .slice A5 n5 c5, .slice A6 0 c6] 25 (0, 0)) A' n' c' (raw ++ List.replicate z 0)))
          case atStart => exact ⟨0, _, _, _, _, rfl, ⟨by have := hst.out.own.len; have := hrl.out; omega⟩, rfl, ⟨by simpa using hst.out⟩⟩
          case round =>
            obtain ⟨z, V', A', n', c', rfl, hz, rfl, hst'⟩ := hrel
            have hn' : (n' : Int) ≤ 252 := by have := hz.out; omega
            by_cases hlt : (n' : Int) < 252
            · go_wp2_with (at_builtin; refine wp_push Try.E8 rfl _ _ rfl rfl hst'.out.own (0 : UInt8) _ ?f1 rfl ?f2 ?f3 ?f4 ?_)
              case f1 => rfl
              case f2 => omega
              case f3 => omega
              case f4 => exact hst'.out.ge
              intro A1 c1 V2 ho1 hk1 _
              have hst2 := Hd.mk (hst'.out.app (ext_refl _) ho1 hk1)
              clear ho1 hk1
              go_wp2_with fail
              go_roundg (252 - (n' + 1))
              case measure => have := hz.out; omega
              case rel => exact ⟨z + 1, _, _, n' + 1, _, rfl, ⟨by have := hz.out; omega⟩, rfl, ⟨by simpa only [List.append_assoc, List.replicate_succ'] using hst2.out⟩⟩
            · have hp : Hd (raw ++ List.replicate z 0 = padB raw) := ⟨by unfold padB; congr 2; have := hz.out; omega⟩
              have hst' := Hd.mk (show Sb w V' B (.cells #[.int .i64 0, .int .i64 lsn, .int .i64 right, .string high, .slice A4 n4 c4, .slice A5 n5 c5, .slice A6 0 c6] 25 (0, 0)) A' n' c' (padB raw) by rw [← hp.out]; exact hst'.out)
              have hp252 : Hd ((padB raw).length = 252) := ⟨padB_len (by have := hz.out; omega)⟩
              have h256 : Hd ((sealB (padB raw)).length = 256) := ⟨by rw [sealB_len, hp252.out]⟩
              go_wp2_with fail
              refine (refseal_any _ _ _ (padB raw) V' hst'.out.own.sl (by omega)).mono ?_
              rintro e w5 ⟨A7, c7, rfl, ho7, hk7⟩
              rw [h256.out] at ho7 ⊢
              have ho7 := Hd.mk ho7
              have hE5 := Hd.mk (hst'.out.ext.then' hk7)
              go_wp2_with fail
              refine hR.out _ _ ⟨hE5.out, fun _ => ⟨A7, c7, rfl, ?_⟩, fun h => (by rw [hok.out] at h; cases h)⟩
              rw [encB, hraw.out]
              exact ho7.out.lower hst'.out.ext.size
    · have hvn : vals = [] := (F.out.inner hl).2.1
      subst hvn
      obtain rfl : n5 = 0 := by have := l5.out; simpa using this.symm
      have hlpd : decide ((0 : Int) < level) = true := by simp; omega
      have hl := Hd.mk hl
      have hg : kids[0]? = some (kids[0]'(by have := (F.out.inner hl.out).1; (try simp only at this); omega)) := List.getElem?_eq_getElem _
      obtain ⟨ad0, rfl, hcell0⟩ := (H.out.ext hst5.out.ext).kids.at_ (sz := 1) (fun _ => rfl) 0 _ hg
      have hcell := hcell0 0 _ rfl
      simp only [Nat.mul_one, Nat.add_zero, addr_zero] at hcell
      clear hcell0
      have hkd := (F.out.inner hl.out).2.2 _ (List.mem_of_getElem? hg)
      have hnum := Hd.mk (num_get hg)
      have hkd1 := hkd.1
      have hkd2 := hkd.2
      have hwl : (0 : Int) < (n6 : Int) := by have := (F.out.inner hl.out).1; have := l6.out; (try simp only at *); omega
      generalize kids[0]'_ = k at hg hcell hkd hnum hkd1 hkd2
      go_wp2_with fail
      refine (refnum_any k 4 (by omega) (by omega) (by omega) _).mono ?_
      rintro e V1 ⟨A2, c2, rfl, ho2, hk2⟩
      rw [leB_len] at ho2 ⊢
      have ho2 := Hd.mk ho2
      have hk2 := Hd.mk hk2
      go_wp2_with (at_builtin; refine wp_app Try.E8 rfl _ _ rfl rfl (hst5.out.own.ext hk2.out) rfl ho2.out.sl ?e8a ?e8b ?e8c ?_)
      case e8a => have := hq5.out; omega
      case e8b => have := hq5.out; omega
      case e8c => exact Nat.le_trans hst5.out.ge hk2.out.size
      intro A1 c1 V2 ho1 hk1 _
      generalize hq : q5 + 4 = q6 at ho1 ⊢
      have hq := Hd.mk hq
      have hst6 := Hd.mk (hst5.out.app hk2.out ho1 hk1)
      clear ho1 hk1 ho2 hk2 hc0 hc1 hc2 hc3 hc4 hc5 hc6
      obtain ⟨hc0, hc1, hc2, hc3, hc4, hc5, hc6⟩ := nd_facts hst6.out.box
      have hst6 : Hd (Sb w V2 B (.cells #[.int .i64 level, .int .i64 lsn, .int .i64 right, .string high, .slice A4 n4 c4, .slice A5 0 c5, .slice (some ad0) n6 c6] 25 (0, 0)) A1 q6 c1 (headL ⟨level, lsn, right, high, keys, [], kids⟩ ++ kidsB keys kids (0 + 1))) := ⟨by have := hst6.out; rw [kidsB, if_pos rfl, hnum.out]; simpa [kidsB] using this⟩
      clear hcell
      go_wp2_with fail
      go_loopg [4, 49] n4 (fun k' v4 v49 wr => ∃ (i : Nat) (V : World) (A : Option Addr) (n c : Nat), V = wr ∧ Hd (i ≤ n4 ∧ k' = n4 - i) ∧ v49 = .int .i64 i ∧ v4 = .slice A n c ∧ Hd (Sb w V B (.cells #[.int .i64 level, .int .i64 lsn, .int .i64 right, .string high, .slice A4 n4 c4, .slice A5 0 c5, .slice (some ad0) n6 c6] 25 (0, 0)) A n c (headL ⟨level, lsn, right, high, keys, [], kids⟩ ++ kidsB keys kids (i + 1))))
      case atStart => exact ⟨0, _, _, _, _, rfl, ⟨by omega⟩, rfl, rfl, ⟨hst6.out⟩⟩
      case round =>
        obtain ⟨i, V, A, n, c, rfl, hi, rfl, rfl, hst⟩ := hrel
        clear hc0 hc1 hc2 hc3 hc4 hc5 hc6
        obtain ⟨hc0, hc1, hc2, hc3, hc4, hc5, hc6⟩ := nd_facts hst.out.box
        by_cases hlt : (i : Int) < (n4 : Int)
        · have hi117 : i ≤ 117 := by omega
          have hnl : Hd (n ≤ 7000) := ⟨by have h := hst.out.own.len; rw [List.length_append, Fit.head_len] at h; (try simp only at h); have := kidsB_le (keys := keys) (kids := kids) (fun k hk => (F.out.keys k hk).2) (i + 1); omega⟩
          have hgp : keys[i]? = some (keys[i]'(by omega)) := List.getElem?_eq_getElem _
          obtain ⟨ad', rfl, hcell0⟩ := (H.out.ext hst.out.ext).keys.at_ (sz := 1) (fun _ => rfl) i _ hgp
          have hcellp := hcell0 0 _ rfl
          simp only [Nat.mul_one, Nat.add_zero] at hcellp
          clear hcell0
          have hks := (F.out.keys _ (List.mem_of_getElem? hgp)).2
          have htx := Hd.mk (txt_get hgp)
          generalize keys[i]'_ = kp at hgp hcellp hks htx
          go_wp2_with fail
          refine (reftext_any kp (by omega) _).mono ?_
          rintro e V1 ⟨A2, c2, rfl, ho2, hk2⟩
          rw [textB_len] at ho2 ⊢
          have ho2 := Hd.mk ho2
          have hk2 := Hd.mk hk2
          go_wp2_with (at_builtin; refine wp_app Try.E8 rfl _ _ rfl rfl (hst.out.own.ext hk2.out) rfl ho2.out.sl ?e9a ?e9b ?e9c ?_)
          case e9a => have := hnl.out; omega
          case e9b => have := hnl.out; omega
          case e9c => exact Nat.le_trans hst.out.ge hk2.out.size
          intro A1 c1 V2 ho1 hk1 _
          generalize hq : n + (2 + kp.size) = qa at ho1 ⊢
          have hq := Hd.mk hq
          have hsta := Hd.mk (hst.out.app hk2.out ho1 hk1)
          clear ho1 hk1 ho2 hk2 hc0 hc1 hc2 hc3 hc4 hc5 hc6
          obtain ⟨hc0, hc1, hc2, hc3, hc4, hc5, hc6⟩ := nd_facts hsta.out.box
          have hqa : Hd (qa ≤ 7018) := ⟨by have := hq.out; have := hnl.out; omega⟩
          clear hcellp
          obtain ⟨m, hm⟩ : ∃ m, i + 1 = m := ⟨_, rfl⟩
          have hg : kids[m]? = some (kids[m]'(by have := (F.out.inner hl.out).1; (try simp only at this); omega)) := List.getElem?_eq_getElem _
          obtain ⟨ad, e', hcell0⟩ := (H.out.ext hsta.out.ext).kids.at_ (sz := 1) (fun _ => rfl) m _ hg
          obtain rfl := Option.some.inj e'
          have hcell := hcell0 0 _ rfl
          simp only [Nat.mul_one, Nat.add_zero] at hcell
          clear hcell0
          have hkd := (F.out.inner hl.out).2.2 _ (List.mem_of_getElem? hg)
          have hnum := Hd.mk (num_get hg)
          have hkd1 := hkd.1
          have hkd2 := hkd.2
          have hwl : (m : Int) < (n6 : Int) := by have := (F.out.inner hl.out).1; have := l6.out; (try simp only at *); omega
          have hwz : (0 : Int) ≤ (m : Int) := by omega
          have hwm : IntKind.i64.wrap ((i : Int) + 1) = (m : Int) := by rw [IntKind.wrap_i64]; omega
          generalize kids[m]'_ = k at hg hcell hkd hnum hkd1 hkd2
          go_wp2_with fail
          refine (refnum_any k 4 (by omega) (by omega) (by omega) _).mono ?_
          rintro e V1 ⟨A2, c2, rfl, ho2, hk2⟩
          rw [leB_len] at ho2 ⊢
          have ho2 := Hd.mk ho2
          have hk2 := Hd.mk hk2
          go_wp2_with (at_builtin; refine wp_app Try.E8 rfl _ _ rfl rfl (hsta.out.own.ext hk2.out) rfl ho2.out.sl ?e10a ?e10b ?e10c ?_)
          case e10a => have := hqa.out; omega
          case e10b => have := hqa.out; omega
          case e10c => exact Nat.le_trans hsta.out.ge hk2.out.size
          intro A1 c1 V2 ho1 hk1 _
          generalize hq : qa + 4 = qb at ho1 ⊢
          have hq := Hd.mk hq
          have hstb := Hd.mk (hsta.out.app hk2.out ho1 hk1)
          clear ho1 hk1 ho2 hk2 hc0 hc1 hc2 hc3 hc4 hc5 hc6
          obtain ⟨hc0, hc1, hc2, hc3, hc4, hc5, hc6⟩ := nd_facts hstb.out.box
          go_wp2_with fail
          go_roundg (n4 - (i + 1))
          case measure => have := hi.out; omega
          case rel =>
            refine ⟨i + 1, _, _, _, _, rfl, ⟨by have := hi.out; omega⟩, by go_num, rfl, ⟨?_⟩⟩
            have e : (headL ⟨level, lsn, right, high, keys, [], kids⟩ ++ kidsB keys kids (i + 1 + 1)) = (headL ⟨level, lsn, right, high, keys, [], kids⟩ ++ kidsB keys kids (i + 1) ++ textB kp) ++ leB k.toNat 4 := by
              rw [kidsB, if_neg (by omega), hm, hnum.out, ← hm, Nat.add_sub_cancel, htx.out]; simp
            rw [e]; simpa only [List.append_assoc, hm] using hstb.out
        · have hbs : Hd (headL ⟨level, lsn, right, high, keys, [], kids⟩ ++ kidsB keys kids (i + 1) = rawB ⟨level, lsn, right, high, keys, [], kids⟩) := ⟨by rw [rawB, bodyB, if_neg hl.out]; simp only; rw [show i + 1 = kids.length by have := (F.out.inner hl.out).1; have := hi.out; (try simp only at *); omega]⟩
          have hst := Hd.mk (show Sb w V B (.cells #[.int .i64 level, .int .i64 lsn, .int .i64 right, .string high, .slice A4 n4 c4, .slice A5 0 c5, .slice (some ad0) n6 c6] 25 (0, 0)) A n c (rawB ⟨level, lsn, right, high, keys, [], kids⟩) by rw [← hbs.out]; exact hst.out)
          have hrl : Hd ((rawB ⟨level, lsn, right, high, keys, [], kids⟩).length ≤ 252) := ⟨F.out.raw_le⟩
          generalize hraw0 : rawB ⟨level, lsn, right, high, keys, [], kids⟩ = raw at hst hrl
          have hraw := Hd.mk hraw0
          clear hbs hc0 hc1 hc2 hc3 hc4 hc5 hc6
          go_wp2_with fail
          go_loopg [4] (252 - n) (fun k' v4 wr => ∃ (z : Nat) (V' : World) (A' : Option Addr) (n' c' : Nat), V' = wr ∧ Hd (n' = raw.length + z ∧ n' ≤ 252 ∧ k' = 252 - n') ∧ v4 = .slice A' n' c' ∧ Hd (Sb w V' B (.cells #[.int .i64 level, .int .i64 lsn, .int .i64 right, .string high, .slice A4 n4 c4, .slice A5 0 c5, .slice (some ad0) n6 c6] 25 (0, 0)) A' n' c' (raw ++ List.replicate z 0)))
          case atStart => exact ⟨0, _, _, _, _, rfl, ⟨by have := hst.out.own.len; have := hrl.out; omega⟩, rfl, ⟨by simpa using hst.out⟩⟩
          case round =>
            obtain ⟨z, V', A', n', c', rfl, hz, rfl, hst'⟩ := hrel
            have hn' : (n' : Int) ≤ 252 := by have := hz.out; omega
            by_cases hlt : (n' : Int) < 252
            · go_wp2_with (at_builtin; refine wp_push Try.E8 rfl _ _ rfl rfl hst'.out.own (0 : UInt8) _ ?f1 rfl ?f2 ?f3 ?f4 ?_)
              case f1 => rfl
              case f2 => omega
              case f3 => omega
              case f4 => exact hst'.out.ge
              intro A1 c1 V2 ho1 hk1 _
              have hst2 := Hd.mk (hst'.out.app (ext_refl _) ho1 hk1)
              clear ho1 hk1
              go_wp2_with fail
              go_roundg (252 - (n' + 1))
              case measure => have := hz.out; omega
              case rel => exact ⟨z + 1, _, _, n' + 1, _, rfl, ⟨by have := hz.out; omega⟩, rfl, ⟨by simpa only [List.append_assoc, List.replicate_succ'] using hst2.out⟩⟩
            · have hp : Hd (raw ++ List.replicate z 0 = padB raw) := ⟨by unfold padB; congr 2; have := hz.out; omega⟩
              have hst' := Hd.mk (show Sb w V' B (.cells #[.int .i64 level, .int .i64 lsn, .int .i64 right, .string high, .slice A4 n4 c4, .slice A5 0 c5, .slice (some ad0) n6 c6] 25 (0, 0)) A' n' c' (padB raw) by rw [← hp.out]; exact hst'.out)
              have hp252 : Hd ((padB raw).length = 252) := ⟨padB_len (by have := hz.out; omega)⟩
              have h256 : Hd ((sealB (padB raw)).length = 256) := ⟨by rw [sealB_len, hp252.out]⟩
              go_wp2_with fail
              refine (refseal_any _ _ _ (padB raw) V' hst'.out.own.sl (by omega)).mono ?_
              rintro e w5 ⟨A7, c7, rfl, ho7, hk7⟩
              rw [h256.out] at ho7 ⊢
              have ho7 := Hd.mk ho7
              have hE5 := Hd.mk (hst'.out.ext.then' hk7)
              go_wp2_with fail
              refine hR.out _ _ ⟨hE5.out, fun _ => ⟨A7, c7, rfl, ?_⟩, fun h => (by rw [hok.out] at h; cases h)⟩
              rw [encB, hraw.out]
              exact ho7.out.lower hst'.out.ext.size
end Go.Proofs.Ythpfkdaijiaalaa
