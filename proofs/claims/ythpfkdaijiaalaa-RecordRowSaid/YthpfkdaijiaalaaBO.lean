/- A row of records, one behind another. -/
import Derived.Test.YthpfkdaijiaalaaBK
import Derived.Test.YthpfkdaijiaalaaBL
import Derived.Test.YthpfkdaijiaalaaBI
namespace Go.Proofs.Ythpfkdaijiaalaa
open Go.RowKit

/-- Those of the first i that are right. -/
noncomputable def sel (l : List Rc) (i : Nat) : List Rc := (l.take i).filter okR
/-- Their frames, one behind another. -/
noncomputable def bts (rs : List Rc) : List UInt8 := rs.flatMap frameB
theorem sel_zero (l : List Rc) : sel l 0 = [] := rfl
theorem sel_yes {l : List Rc} {i : Nat} {r : Rc} (h : l[i]? = some r) (ho : okR r = true) : sel l (i + 1) = sel l i ++ [r] := by
  simp [sel, List.take_add_one, h, List.filter_append, ho]
theorem sel_no {l : List Rc} {i : Nat} {r : Rc} (h : l[i]? = some r) (ho : okR r = false) : sel l (i + 1) = sel l i := by
  simp [sel, List.take_add_one, h, List.filter_append, ho]
theorem sel_ok {l : List Rc} {i : Nat} {r : Rc} (h : r ∈ sel l i) : okR r = true := (List.mem_filter.1 h).2
theorem sel_len (l : List Rc) (i : Nat) : (sel l i).length ≤ i := Nat.le_trans (List.length_filter_le _ _) (by rw [List.length_take]; omega)
theorem bts_append (a b : List Rc) : bts (a ++ b) = bts a ++ bts b := by simp [bts]
theorem bts_one (r : Rc) : bts [r] = frameB r := by simp [bts]
theorem bts_cons (r : Rc) (a : List Rc) : bts (r :: a) = frameB r ++ bts a := by simp [bts]
theorem bts_len : ∀ (rs : List Rc), (∀ r ∈ rs, okR r = true) → (bts rs).length ≤ 315 * rs.length
  | [], _ => Nat.zero_le _
  | r :: rs, h => by
    have h1 := bts_len rs (fun x hx => h x (List.mem_cons_of_mem _ hx))
    have h2 := (okR_fit (h r List.mem_cons_self)).len
    rw [bts_cons, List.length_append, List.length_cons, frameB_len]
    omega

theorem add_add (ad : Addr) (m j : Nat) : (ad.add m).add j = ad.add (m + j) := by
  simp only [Addr.add]
  repeat' split
  all_goals simp_all
  all_goals omega
theorem add_off (ad : Addr) (j : Nat) (hj : j ≠ 0) : (⟨ad.block, ad.off + j, none⟩ : Addr) = ad.add j := by simp [Addr.add, hj]
/-- The cells of element i, as a load of the whole names them. -/
theorem rc_at {V : World} {ad : Addr} {i : Nat} {r : Rc} (h : ∀ j u, (rcL r)[j]? = some u → V.cell? (ad.add (i * 8 + j)) = some u) :
    V.cell? (ad.add (i * 8)) = some (.int .i64 r.lsn) ∧ V.cell? ⟨(ad.add (i * 8)).block, (ad.add (i * 8)).off + 1, none⟩ = some (.int .i64 r.epoch) ∧
    V.cell? ⟨(ad.add (i * 8)).block, (ad.add (i * 8)).off + 2, none⟩ = some (.int .i64 r.kind) ∧ V.cell? ⟨(ad.add (i * 8)).block, (ad.add (i * 8)).off + 3, none⟩ = some (.int .i64 r.page) ∧
    V.cell? ⟨(ad.add (i * 8)).block, (ad.add (i * 8)).off + 4, none⟩ = some (.int .i64 r.other) ∧ V.cell? ⟨(ad.add (i * 8)).block, (ad.add (i * 8)).off + 5, none⟩ = some (.int .i64 r.req) ∧
    V.cell? ⟨(ad.add (i * 8)).block, (ad.add (i * 8)).off + 6, none⟩ = some (.string r.key) ∧ V.cell? ⟨(ad.add (i * 8)).block, (ad.add (i * 8)).off + 7, none⟩ = some (.string r.value) := by
  refine ⟨h 0 _ rfl, ?_, ?_, ?_, ?_, ?_, ?_, ?_⟩
  all_goals
    rw [add_off _ _ (by omega), add_add]
    exact h _ _ rfl

set_option maxRecDepth 100000 in
set_option maxHeartbeats 4000000 in
theorem lawRRow (A : Option Addr) (k c : Nat) (l : List Rc) (w : World) (hr : ∀ r ∈ l, RcS r) (hs : SlAt rcL w A k c l) :
    Calls Try.prog 13 #[.slice A k c] w fun e w' => e = .returned (.bool true) ∧ Ext w w' := by
  refine hide_post fun R hR => ?_
  have hr := Hd.mk hr
  have HS := Hd.mk hs
  have hk : (k : Int) ≤ 9223372036854775807 := by have := hs.cap; have := hs.max; omega
  clear hs
  obtain ⟨B, hB⟩ : ∃ B, Hd (w.heap.size = B) := ⟨_, ⟨rfl⟩⟩
  go_enter Try.func13, Try.ntmps13
  go_upto_region 4 with fail
  skip
  go_loopg [3, 4, 16] k (fun k' v3 v4 v16 wr => ∃ (i : Nat) (V : World) (A3 : Option Addr) (n3 c3 : Nat) (A4 : Option Addr) (n4 c4 : Nat), V = wr ∧ Hd (i ≤ k ∧ i ≤ 300 ∧ k' = k - i) ∧ v3 = .slice A3 n3 c3 ∧ v4 = .slice A4 n4 c4 ∧ v16 = .int .i64 i ∧
    Hd (Own enc8 1 5 B V A3 n3 c3 (bts (sel l i))) ∧ Hd (Own rcL 8 46 B V A4 n4 c4 (sel l i)) ∧ Hd (Ext w V))
  case atStart => exact ⟨0, _, _, _, _, _, _, _, rfl, ⟨by omega⟩, rfl, rfl, rfl, ⟨Own.nil_ _ _ _ _ _⟩, ⟨Own.nil_ _ _ _ _ _⟩, ⟨ext_refl w⟩⟩
  case round =>
    obtain ⟨i, V, A3, n3, c3, A4, n4, c4, rfl, hi, rfl, rfl, rfl, h3, h4, hkV⟩ := hrel
    by_cases hlt : (i : Int) < k
    · have hlt' : Hd (i < k) := ⟨by omega⟩
      obtain ⟨r, hri⟩ : ∃ r, l[i]? = some r := ⟨_, List.getElem?_eq_getElem (by have := HS.out.len; have := hlt'.out; omega)⟩
      have hri := Hd.mk hri
      obtain ⟨ad, rfl, hcell⟩ := HS.out.at_ Try.ER.len i r hri.out
      have hcV : ∀ j u, (rcL r)[j]? = some u → V.cell? (ad.add (i * 8 + j)) = some u := fun j u hj => hkV.out.cell (hcell j u hj) id
      clear hcell
      obtain ⟨lsn, epoch, kind, page, other, req, key, value⟩ := r
      obtain ⟨hp0, hp1, hp2, hp3, hp4, hp5, hp6, hp7⟩ := rc_at hcV
      simp only at hp0 hp1 hp2 hp3 hp4 hp5 hp6 hp7
      clear hcV
      go_upto_region 6 with fail
      obtain ⟨W, hW⟩ : ∃ W, V.alloc (.cells #[.int .i64 lsn, .int .i64 epoch, .int .i64 kind, .int .i64 page, .int .i64 other, .int .i64 req, .string key, .string value] 46) = W := ⟨_, rfl⟩
      have hcur := Hd.mk (Rx.first (⟨lsn, epoch, kind, page, other, req, key, value⟩ : Rc) hW)
      rw [hW]
      clear hW hp0 hp1 hp2 hp3 hp4 hp5 hp6 hp7
      obtain ⟨g, hg⟩ : ∃ g, V.heap.size = g := ⟨_, rfl⟩
      have hgB : Hd (B ≤ g) := ⟨by rw [← hg, ← hB.out]; exact hkV.out.size⟩
      rw [hg] at hcur ⊢
      have hg := Hd.mk hg
      have h4g : ∀ q, foot A4 c4 q → q < g := fun q hq => by have := (h4.out.ge hq).2; rw [← hg.out]; exact this
      have h3 := Hd.mk (h3.out.ext hcur.out.ext)
      have h4 := Hd.mk (h4.out.ext hcur.out.ext)
      have hkW := Hd.mk (hkV.out.then' hcur.out.ext)
      clear hkV
      by_cases h300 : 300 ≤ (i : Int)
      · have HKW := hkW
        clear hkW
        have hok := Hd.mk (fun r (h : r ∈ sel l i) => sel_ok h)
        have hnb : Hd (n3 ≤ 94500) := ⟨by
          have := bts_len (sel l i) (fun _ h => sel_ok h)
          have := sel_len l i
          have := h3.out.len
          have := hi.out
          omega⟩
        have hnr : Hd (n4 ≤ 300) := ⟨by
          have := sel_len l i
          have := h4.out.len
          have := hi.out
          omega⟩
        have s3 := Hd.mk h3.out.sl
        have s4 := Hd.mk h4.out.sl
        clear h3 h4 hi
        obtain ⟨rs, hrs⟩ : ∃ rs, sel l i = rs := ⟨_, rfl⟩
        rw [hrs] at hok s3 s4
        clear hrs
        go_wp2_with fail
        skip
        go_loopg [3, 40] n4 (fun k' v3 v40 wr => ∃ (j : Nat) (V : World) (A3 : Option Addr) (n3 c3 : Nat), V = wr ∧ Hd (j ≤ n4 ∧ k' = n4 - j) ∧ v3 = .slice A3 n3 c3 ∧ v40 = .int .i64 j ∧ Hd (n3 ≤ 94500) ∧
          Hd (SlAt enc8 V A3 n3 c3 (bts (rs.drop j))) ∧ Hd (SlAt rcL V A4 n4 c4 rs) ∧ Hd (Ext w V))
        case atStart => exact ⟨0, _, _, _, _, rfl, ⟨by omega⟩, rfl, rfl, hnb, s3, s4, HKW⟩
        case round =>
          clear HKW s3 s4 hnb
          obtain ⟨j, V, A3, n3, c3, rfl, hj, rfl, rfl, hnb, s3, s4, hkV⟩ := hrel
          have hn4i : (n4 : Int) ≤ 300 := by have := hnr.out; omega
          by_cases hlt2 : (j : Int) < n4
          · have hlt2' : Hd (j < n4) := ⟨by omega⟩
            obtain ⟨r, hrj⟩ : ∃ r, rs[j]? = some r := ⟨_, List.getElem?_eq_getElem (by have := s4.out.len; have := hlt2'.out; omega)⟩
            obtain ⟨ad4, hA4, hcV⟩ := s4.out.at_ Try.ER.len j r hrj
            have hA4 := Hd.mk hA4
            have hokr := Hd.mk (hok.out r (List.mem_of_getElem? hrj))
            have hdrop : Hd (bts (rs.drop j) = frameB r ++ bts (rs.drop (j + 1))) := ⟨by rw [← bts_cons, List.drop_eq_getElem?_toList_append, hrj]; rfl⟩
            have hlen : Hd ((frameB r).length ≤ 315 ∧ 6 ≤ (frameB r).length) := ⟨by rw [frameB_len]; have := (okR_fit hokr.out).len; omega⟩
            rw [hdrop.out] at s3
            have hdec := Hd.mk (decRec_frame hokr.out (bts (rs.drop (j + 1))))
            obtain ⟨N, hN⟩ : ∃ N, (frameB r).length = N := ⟨_, rfl⟩
            have hN3 : Hd (N ≤ n3) := ⟨by have := s3.out.len; rw [List.length_append, hN] at this; omega⟩
            rw [hN] at hdec hlen
            have hN := Hd.mk hN
            clear hdrop hrj hokr
            obtain ⟨lsn, epoch, kind, page, other, req, key, value⟩ := r
            obtain ⟨hp0, hp1, hp2, hp3, hp4, hp5, hp6, hp7⟩ := rc_at hcV
            simp only at hp0 hp1 hp2 hp3 hp4 hp5 hp6 hp7
            clear hcV
            have hA4' := hA4.out
            subst hA4'
            clear hA4
            go_upto_region 15 with fail
            obtain ⟨W, hW⟩ : ∃ W, V.alloc (.cells #[.int .i64 lsn, .int .i64 epoch, .int .i64 kind, .int .i64 page, .int .i64 other, .int .i64 req, .string key, .string value] 46) = W := ⟨_, rfl⟩
            have hcur := Hd.mk (Rx.first (⟨lsn, epoch, kind, page, other, req, key, value⟩ : Rc) hW)
            rw [hW]
            clear hW hp0 hp1 hp2 hp3 hp4 hp5 hp6 hp7
            obtain ⟨g, hg⟩ : ∃ g, V.heap.size = g := ⟨_, rfl⟩
            rw [hg] at hcur ⊢
            clear hg
            have t3 := Hd.mk (s3.out.ext hcur.out.ext)
            have t4 := Hd.mk (s4.out.ext hcur.out.ext)
            clear s3 s4
            go_wp2_with fail
            refine (rdecode_any A3 n3 c3 _ W t3.out (by have := hnb.out; omega)).mono ?_
            rintro e w1 ⟨rfl, hk⟩
            rw [hdec.out]
            have hcur1 := Hd.mk (hcur.out.go hk)
            have t3 := Hd.mk (t3.out.ext hk)
            have t4 := Hd.mk (t4.out.ext hk)
            clear hk hcur
            simp only [rcV]
            go_upto_region 16 with fail
            obtain ⟨W2, hW⟩ : ∃ W, w1.alloc (.cells #[.int .i64 lsn, .int .i64 epoch, .int .i64 kind, .int .i64 page, .int .i64 other, .int .i64 req, .string key, .string value] 46) = W := ⟨_, rfl⟩
            have hcm := Hd.mk (Rx.first (⟨lsn, epoch, kind, page, other, req, key, value⟩ : Rc) hW)
            rw [hW]
            clear hW
            obtain ⟨g', hg⟩ : ∃ g, w1.heap.size = g := ⟨_, rfl⟩
            rw [hg] at hcm ⊢
            clear hg
            have hcur2 := Hd.mk (hcur1.out.go hcm.out.ext)
            have t3 := Hd.mk (t3.out.ext hcm.out.ext)
            have t4 := Hd.mk (t4.out.ext hcm.out.ext)
            have hkW2 := Hd.mk (hkV.out.then' hcur2.out.ext)
            clear hcur1 hkV
            obtain ⟨hc0, hc1, hc2, hc3, hc4, hc5, hc6, hc7⟩ := rc_facts hcur2.out.box
            obtain ⟨hd0, hd1, hd2, hd3, hd4, hd5, hd6, hd7⟩ := rc_facts hcm.out.box
            have hb1 : decide ((N : Int) < 1) = false := by simp; have := hlen.out; omega
            have hb2 : decide ((n3 : Int) < (N : Int)) = false := by simp; have := hN3.out; omega
            have hb3 : (N : Int) ≤ (n3 : Int) := by have := hN3.out; omega
            obtain ⟨A5, n5, c5, hn5, t5, ha5, hcut5⟩ := cut_from Try.E8 t3.out N hN3.out
            clear ha5
            have t5 : Hd (SlAt enc8 W2 A5 n5 c5 (bts (rs.drop (j + 1)))) := ⟨by have h := t5.out; rwa [List.drop_append_of_le_length (by rw [hN.out]; exact Nat.le_refl _), ← hN.out, List.drop_length, List.nil_append] at h⟩
            have hnb5 : Hd (n5 ≤ 94500) := ⟨by have := hn5.out; have := hnb.out; omega⟩
            clear hn5 t3
            go_upto_region 19 with fail
            go_wp2_with fail
            go_roundg (n4 - (j + 1))
            case measure => have := hlt2'.out; have := hj.out; omega
            case rel =>
              first | exact ⟨j + 1, _, _, _, _, rfl, ⟨by have := hlt2'.out; omega⟩, rfl, by go_num, hnb5, t5, t4, hkW2⟩ | exact ⟨j + 1, _, _, _, _, rfl, ⟨by have := hlt2'.out; omega⟩, rfl, by go_num, hnb5, ⟨t5.out.ext (ext_refl _).drew⟩, ⟨t4.out.ext (ext_refl _).drew⟩, ⟨hkW2.out.drew⟩⟩
          · have hj4 : j = n4 := by have := hj.out; omega
            subst hj4
            have hn0 : n3 = 0 := by
              have := s3.out.len
              rw [List.drop_of_length_le (by rw [s4.out.len]; exact Nat.le_refl _)] at this
              simpa [bts] using this.symm
            subst hn0
            have hfin : ∀ W3, Ext V W3 → R (.returned (.bool true)) W3 := fun W3 h => hR.out _ _ ⟨rfl, hkV.out.ext h⟩
            have hfin := Hd.mk hfin
            go_wp2_with fail
            refine (speaks9_any _).mono ?_
            rintro e w8 ⟨rfl, hk⟩
            have hk8 := Hd.mk hk
            clear hk
            go_wp2_with fail
            exact hk8.out
      · obtain ⟨hd0, hd1, hd2, hd3, hd4, hd5, hd6, hd7⟩ := rc_facts hcur.out.box
        have hi3 : Hd (i < 300) := ⟨by omega⟩
        have h4g : Hd (∀ q, foot A4 c4 q → q < g) := ⟨h4g⟩
        have hn3 : Hd (n3 ≤ 94500) := ⟨by
          have := bts_len (sel l i) (fun _ h => sel_ok h)
          have := sel_len l i
          have := h3.out.len
          have := hi3.out
          omega⟩
        have hn4 : Hd (n4 ≤ 300) := ⟨by
          have := sel_len l i
          have := h4.out.len
          have := hi3.out
          omega⟩
        have hrS := hr.out _ (List.mem_of_getElem? hri.out)
        go_wp2_with fail
        clear hd0 hd1 hd2 hd3 hd4 hd5 hd6 hd7
        refine (rencode_any (⟨lsn, epoch, kind, page, other, req, key, value⟩ : Rc) hrS W).mono ?_
        rintro e w1 ⟨hk, hy, hno⟩
        have hcur1 := Hd.mk (hcur.out.go hk)
        have h3 := Hd.mk (h3.out.ext hk)
        have h4 := Hd.mk (h4.out.ext hk)
        have hk1 := Hd.mk (hkW.out.then' hk)
        clear hk hkW hcur hrS
        cases hok : okR ⟨lsn, epoch, kind, page, other, req, key, value⟩ with
        | true =>
          obtain ⟨A1, c1, rfl, ho⟩ := hy hok
          clear hy hno
          have hlen : Hd ((frameB ⟨lsn, epoch, kind, page, other, req, key, value⟩).length ≤ 315) := ⟨by rw [frameB_len]; have := (okR_fit hok).len; omega⟩
          have hsel := Hd.mk (sel_yes hri.out hok)
          obtain ⟨N, hN⟩ : ∃ N, (frameB ⟨lsn, epoch, kind, page, other, req, key, value⟩).length = N := ⟨_, rfl⟩
          rw [hN] at ho hlen ⊢
          have hN := Hd.mk hN
          have hs1 := Hd.mk ho.sl
          clear ho hok
          go_wp2_with (at_builtin; refine wp_app Try.E8 rfl _ _ rfl rfl h3.out rfl hs1.out ?c1 ?c2 ?c3 ?_)
          case c1 => have := hlen.out; have := hn3.out; omega
          case c2 => have := hlen.out; have := hn3.out; omega
          case c3 => have := hk1.out.size; have := hB.out; omega
          intro A3' c3' w2 h3' hk2 _
          have h3' := Hd.mk h3'
          have hcur2 : Hd (w2.heap[g]? = some (.cells (rcC ⟨lsn, epoch, kind, page, other, req, key, value⟩) 46 (0, 0))) := ⟨(hk2.blk hcur1.out.box (fun hf => by
            obtain ⟨cur, hc⟩ := h3.out.type_ hf
            rw [hcur1.out.box] at hc
            cases hc))⟩
          have h4' := Hd.mk (h4.out.keep hk2 (fun q hf hf' => by
            obtain ⟨cur, hc⟩ := h3.out.type_ hf'
            obtain ⟨cur', hc'⟩ := h4.out.type_ hf
            rw [hc] at hc'
            cases hc'))
          have hkw2 : Hd (Ext w w2) := ⟨hk1.out.trans hk2 (fun q hq h => by have := (h3.out.ge h).1; have := hB.out; omega)⟩
          clear h3 h4 hk1 hk2 hs1 hcur1
          obtain ⟨hd0, hd1, hd2, hd3, hd4, hd5, hd6, hd7⟩ := rc_facts hcur2.out
          go_wp2_with (at_builtin; refine wp_push Try.ER rfl _ _ rfl rfl h4'.out ⟨lsn, epoch, kind, page, other, req, key, value⟩ _ ?f1 rfl ?f2 ?f3 ?f4 ?_)
          case f1 => rfl
          case f2 => have := hn4.out; omega
          case f3 => have := hn4.out; omega
          case f4 => have := hkw2.out.size; have := hB.out; omega
          intro A4' c4' w3 h4'' hk3 _
          have h4'' := Hd.mk h4''
          have hkw3 : Hd (Ext w w3) := ⟨hkw2.out.trans hk3 (fun q hq h => by have := (h4'.out.ge h).1; have := hB.out; omega)⟩
          have h3'' := Hd.mk (h3'.out.keep hk3 (fun q hf hf' => by
            obtain ⟨cur, hc⟩ := h4'.out.type_ hf'
            obtain ⟨cur', hc'⟩ := h3'.out.type_ hf
            rw [hc] at hc'
            cases hc'))
          clear h3' h4' hk3 hkw2 hcur2 hd0 hd1 hd2 hd3 hd4 hd5 hd6 hd7
          go_wp2_with fail
          go_roundg (k - (i + 1))
          case measure => have := hlt'.out; have := hi.out; omega
          case rel =>
            refine ⟨i + 1, _, _, _, _, _, _, _, rfl, ⟨by have := hlt'.out; have := hi3.out; omega⟩, rfl, rfl, by go_num, ⟨?_⟩, ⟨?_⟩, hkw3⟩
            · rw [hsel.out, bts_append, bts_one]; exact h3''.out
            · rw [hsel.out]; exact h4''.out
        | false =>
          obtain rfl := hno hok
          have hsel := Hd.mk (sel_no hri.out hok)
          have hck := ckR_not hok
          rw [hck] at *
          clear hy hno hok hcur1
          go_wp2_with fail
          go_roundg (k - (i + 1))
          case measure => have := hlt'.out; have := hi.out; omega
          case rel =>
            refine ⟨i + 1, _, _, _, _, _, _, _, rfl, ⟨by have := hlt'.out; have := hi3.out; omega⟩, rfl, rfl, by go_num, ⟨?_⟩, ⟨?_⟩, hk1⟩
            · rw [hsel.out]; exact h3.out
            · rw [hsel.out]; exact h4.out
    · have HKW := hkV
      clear hkV
      have hok := Hd.mk (fun r (h : r ∈ sel l i) => sel_ok h)
      have hnb : Hd (n3 ≤ 94500) := ⟨by
        have := bts_len (sel l i) (fun _ h => sel_ok h)
        have := sel_len l i
        have := h3.out.len
        have := hi.out
        omega⟩
      have hnr : Hd (n4 ≤ 300) := ⟨by
        have := sel_len l i
        have := h4.out.len
        have := hi.out
        omega⟩
      have s3 := Hd.mk h3.out.sl
      have s4 := Hd.mk h4.out.sl
      clear h3 h4 hi
      obtain ⟨rs, hrs⟩ : ∃ rs, sel l i = rs := ⟨_, rfl⟩
      rw [hrs] at hok s3 s4
      clear hrs
      go_wp2_with fail
      skip
      go_loopg [3, 40] n4 (fun k' v3 v40 wr => ∃ (j : Nat) (V : World) (A3 : Option Addr) (n3 c3 : Nat), V = wr ∧ Hd (j ≤ n4 ∧ k' = n4 - j) ∧ v3 = .slice A3 n3 c3 ∧ v40 = .int .i64 j ∧ Hd (n3 ≤ 94500) ∧
        Hd (SlAt enc8 V A3 n3 c3 (bts (rs.drop j))) ∧ Hd (SlAt rcL V A4 n4 c4 rs) ∧ Hd (Ext w V))
      case atStart => exact ⟨0, _, _, _, _, rfl, ⟨by omega⟩, rfl, rfl, hnb, s3, s4, HKW⟩
      case round =>
        clear HKW s3 s4 hnb
        obtain ⟨j, V, A3, n3, c3, rfl, hj, rfl, rfl, hnb, s3, s4, hkV⟩ := hrel
        have hn4i : (n4 : Int) ≤ 300 := by have := hnr.out; omega
        by_cases hlt2 : (j : Int) < n4
        · have hlt2' : Hd (j < n4) := ⟨by omega⟩
          obtain ⟨r, hrj⟩ : ∃ r, rs[j]? = some r := ⟨_, List.getElem?_eq_getElem (by have := s4.out.len; have := hlt2'.out; omega)⟩
          obtain ⟨ad4, hA4, hcV⟩ := s4.out.at_ Try.ER.len j r hrj
          have hA4 := Hd.mk hA4
          have hokr := Hd.mk (hok.out r (List.mem_of_getElem? hrj))
          have hdrop : Hd (bts (rs.drop j) = frameB r ++ bts (rs.drop (j + 1))) := ⟨by rw [← bts_cons, List.drop_eq_getElem?_toList_append, hrj]; rfl⟩
          have hlen : Hd ((frameB r).length ≤ 315 ∧ 6 ≤ (frameB r).length) := ⟨by rw [frameB_len]; have := (okR_fit hokr.out).len; omega⟩
          rw [hdrop.out] at s3
          have hdec := Hd.mk (decRec_frame hokr.out (bts (rs.drop (j + 1))))
          obtain ⟨N, hN⟩ : ∃ N, (frameB r).length = N := ⟨_, rfl⟩
          have hN3 : Hd (N ≤ n3) := ⟨by have := s3.out.len; rw [List.length_append, hN] at this; omega⟩
          rw [hN] at hdec hlen
          have hN := Hd.mk hN
          clear hdrop hrj hokr
          obtain ⟨lsn, epoch, kind, page, other, req, key, value⟩ := r
          obtain ⟨hp0, hp1, hp2, hp3, hp4, hp5, hp6, hp7⟩ := rc_at hcV
          simp only at hp0 hp1 hp2 hp3 hp4 hp5 hp6 hp7
          clear hcV
          have hA4' := hA4.out
          subst hA4'
          clear hA4
          go_upto_region 15 with fail
          obtain ⟨W, hW⟩ : ∃ W, V.alloc (.cells #[.int .i64 lsn, .int .i64 epoch, .int .i64 kind, .int .i64 page, .int .i64 other, .int .i64 req, .string key, .string value] 46) = W := ⟨_, rfl⟩
          have hcur := Hd.mk (Rx.first (⟨lsn, epoch, kind, page, other, req, key, value⟩ : Rc) hW)
          rw [hW]
          clear hW hp0 hp1 hp2 hp3 hp4 hp5 hp6 hp7
          obtain ⟨g, hg⟩ : ∃ g, V.heap.size = g := ⟨_, rfl⟩
          rw [hg] at hcur ⊢
          clear hg
          have t3 := Hd.mk (s3.out.ext hcur.out.ext)
          have t4 := Hd.mk (s4.out.ext hcur.out.ext)
          clear s3 s4
          go_wp2_with fail
          refine (rdecode_any A3 n3 c3 _ W t3.out (by have := hnb.out; omega)).mono ?_
          rintro e w1 ⟨rfl, hk⟩
          rw [hdec.out]
          have hcur1 := Hd.mk (hcur.out.go hk)
          have t3 := Hd.mk (t3.out.ext hk)
          have t4 := Hd.mk (t4.out.ext hk)
          clear hk hcur
          simp only [rcV]
          go_upto_region 16 with fail
          obtain ⟨W2, hW⟩ : ∃ W, w1.alloc (.cells #[.int .i64 lsn, .int .i64 epoch, .int .i64 kind, .int .i64 page, .int .i64 other, .int .i64 req, .string key, .string value] 46) = W := ⟨_, rfl⟩
          have hcm := Hd.mk (Rx.first (⟨lsn, epoch, kind, page, other, req, key, value⟩ : Rc) hW)
          rw [hW]
          clear hW
          obtain ⟨g', hg⟩ : ∃ g, w1.heap.size = g := ⟨_, rfl⟩
          rw [hg] at hcm ⊢
          clear hg
          have hcur2 := Hd.mk (hcur1.out.go hcm.out.ext)
          have t3 := Hd.mk (t3.out.ext hcm.out.ext)
          have t4 := Hd.mk (t4.out.ext hcm.out.ext)
          have hkW2 := Hd.mk (hkV.out.then' hcur2.out.ext)
          clear hcur1 hkV
          obtain ⟨hc0, hc1, hc2, hc3, hc4, hc5, hc6, hc7⟩ := rc_facts hcur2.out.box
          obtain ⟨hd0, hd1, hd2, hd3, hd4, hd5, hd6, hd7⟩ := rc_facts hcm.out.box
          have hb1 : decide ((N : Int) < 1) = false := by simp; have := hlen.out; omega
          have hb2 : decide ((n3 : Int) < (N : Int)) = false := by simp; have := hN3.out; omega
          have hb3 : (N : Int) ≤ (n3 : Int) := by have := hN3.out; omega
          obtain ⟨A5, n5, c5, hn5, t5, ha5, hcut5⟩ := cut_from Try.E8 t3.out N hN3.out
          clear ha5
          have t5 : Hd (SlAt enc8 W2 A5 n5 c5 (bts (rs.drop (j + 1)))) := ⟨by have h := t5.out; rwa [List.drop_append_of_le_length (by rw [hN.out]; exact Nat.le_refl _), ← hN.out, List.drop_length, List.nil_append] at h⟩
          have hnb5 : Hd (n5 ≤ 94500) := ⟨by have := hn5.out; have := hnb.out; omega⟩
          clear hn5 t3
          go_upto_region 19 with fail
          go_wp2_with fail
          go_roundg (n4 - (j + 1))
          case measure => have := hlt2'.out; have := hj.out; omega
          case rel =>
            first | exact ⟨j + 1, _, _, _, _, rfl, ⟨by have := hlt2'.out; omega⟩, rfl, by go_num, hnb5, t5, t4, hkW2⟩ | exact ⟨j + 1, _, _, _, _, rfl, ⟨by have := hlt2'.out; omega⟩, rfl, by go_num, hnb5, ⟨t5.out.ext (ext_refl _).drew⟩, ⟨t4.out.ext (ext_refl _).drew⟩, ⟨hkW2.out.drew⟩⟩
        · have hj4 : j = n4 := by have := hj.out; omega
          subst hj4
          have hn0 : n3 = 0 := by
            have := s3.out.len
            rw [List.drop_of_length_le (by rw [s4.out.len]; exact Nat.le_refl _)] at this
            simpa [bts] using this.symm
          subst hn0
          have hfin : ∀ W3, Ext V W3 → R (.returned (.bool true)) W3 := fun W3 h => hR.out _ _ ⟨rfl, hkV.out.ext h⟩
          have hfin := Hd.mk hfin
          go_wp2_with fail
          refine (speaks9_any _).mono ?_
          rintro e w8 ⟨rfl, hk⟩
          have hk8 := Hd.mk hk
          clear hk
          go_wp2_with fail
          exact hk8.out
end Go.Proofs.Ythpfkdaijiaalaa
