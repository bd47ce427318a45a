/- The node's statements: a node with an entry more is larger, by just that entry. -/
import Derived.Test.YthpfkdaijiaalaaAE
import Derived.Deep.RegionHeld3
namespace Go.Proofs.Ythpfkdaijiaalaa
open Go.RowKit

/-- A node without its last entry. -/
def lessN (n : Nd) (K : Nat) : Nd := ⟨n.level, n.lsn, n.right, n.high, n.keys.take K, if n.level = 0 then n.vals.take K else n.vals, if n.level = 0 then n.kids else n.kids.take (K + 1)⟩
theorem sumS_nonneg (l : List ByteArray) : 0 ≤ sumS l := by
  induction l with
  | nil => simp [sumS]
  | cons a l ih =>
    have e : sumS (a :: l) = 2 + (a.size : Int) + sumS l := by simp [sumS]
    rw [e]; omega
theorem sumS_take_le (l : List ByteArray) (K : Nat) : 0 ≤ sumS (l.take K) := sumS_nonneg _
theorem less_size {n : Nd} {K : Nat} (F : Fit n) (hK : n.keys.length = K + 1) : sizeT n - sizeT (lessN n K) = 2 + ((txt n.keys K).size : Int) + (if n.level = 0 then 2 + ((txt n.vals K).size : Int) else 4) := by
  have h1 := sumS_txt (xs := n.keys) (i := K) (by omega)
  rw [List.take_of_length_le (by omega)] at h1
  by_cases hl : n.level = 0
  · obtain ⟨a, b, c⟩ := F.leaf hl
    have h2 := sumS_txt (xs := n.vals) (i := K) (by omega)
    rw [List.take_of_length_le (by omega)] at h2
    simp only [sizeT, lessN, hl, if_true]
    omega
  · obtain ⟨a, b, c⟩ := F.inner hl
    simp only [sizeT, lessN, hl, if_false, List.length_take]
    omega
theorem less_ok {n : Nd} {K : Nat} (hok : okB n = true) (F : Fit n) (hK : n.keys.length = K + 1) : okB (lessN n K) = true := by
  have hs := less_size F hK
  have hz := F.size
  have hkt := sumS_take_le n.keys K
  have hvt := sumS_take_le n.vals K
  simp only [okB, Bool.and_eq_true, decide_eq_true_eq] at hok ⊢
  obtain ⟨⟨⟨h1, h2⟩, h3⟩, h4⟩ := hok
  refine ⟨⟨⟨h1, ?_⟩, ?_⟩, ?_⟩
  · by_cases hl : n.level = 0
    · obtain ⟨a, b, c⟩ := F.leaf hl
      simp only [partsB, lessN, hl, if_true, Bool.and_eq_true, decide_eq_true_eq, Bool.not_eq_true', List.length_take, b, List.length_nil] at h2 ⊢
      refine ⟨⟨by omega, trivial⟩, ?_⟩
      rw [List.any_eq_false] at h2 ⊢
      exact fun v hv => h2.2 v (List.mem_of_mem_take hv)
    · obtain ⟨a, b, c⟩ := F.inner hl
      simp only [partsB, lessN, hl, if_false, Bool.and_eq_true, decide_eq_true_eq, Bool.not_eq_true', List.length_take, b, List.length_nil] at h2 ⊢
      refine ⟨⟨by omega, trivial⟩, ?_⟩
      rw [List.any_eq_false] at h2 ⊢
      exact fun v hv => h2.2 v (List.mem_of_mem_take hv)
  · have h0 : 0 ≤ sizeT (lessN n K) := by
      by_cases hl : n.level = 0
      · simp only [sizeT, lessN, hl, if_true]; omega
      · simp only [sizeT, lessN, hl, if_false]; omega
    have h5 : sizeT (lessN n K) ≤ sizeT n := by
      by_cases hl : n.level = 0
      · rw [if_pos hl] at hs; omega
      · rw [if_neg hl] at hs; omega
    unfold wrap64; omega
  · unfold keysB at h4 ⊢
    rw [List.all_eq_true] at h4 ⊢
    intro i hi
    have hiK : i < K := by have := List.mem_range.1 hi; simp only [lessN, List.length_take] at this; omega
    have hk := h4 i (List.mem_range.2 (by omega))
    have e1 : (n.keys.take K)[i]? = n.keys[i]? := List.getElem?_take_of_lt hiK
    have e2 : prevB (n.keys.take K) i (n.keys[i]?.getD n.high) = prevB n.keys i (n.keys[i]?.getD n.high) := by
      cases i with
      | zero => rfl
      | succ j => simp only [prevB]; rw [List.getElem?_take_of_lt (by omega)]
    simp only [lessN, keyB, e1, e2] at hk ⊢
    exact hk
theorem wrap_sub (a b : Int) : wrap64 (wrap64 a - wrap64 b) = wrap64 (a - b) := by unfold wrap64; omega
theorem NdAt.less {w : World} {n : Nd} {A4 : Option Addr} {n4 c4 : Nat} {A5 : Option Addr} {n5 c5 : Nat} {A6 : Option Addr} {n6 c6 : Nat} (h : NdAt w n A4 n4 c4 A5 n5 c5 A6 n6 c6) {K : Nat} (F : Fit n) (hK : n.keys.length = K + 1) :
    NdAt w (lessN n K) A4 K c4 A5 (if n.level = 0 then K else n5) c5 A6 (if n.level = 0 then n6 else K + 1) c6 := by
  have l4 := h.keys.len
  have l5 := h.vals.len
  have l6 := h.kids.len
  have b4 := h.b4
  by_cases hl : n.level = 0
  · obtain ⟨a, b, c⟩ := F.leaf hl
    simp only [lessN, hl, if_true]
    exact ⟨h.keys.take ⟨1, fun _ => rfl⟩ K (by omega), h.vals.take ⟨1, fun _ => rfl⟩ K (by omega), h.kids, by omega, by omega, h.b6, h.bh, fun k hk => h.bk k (List.mem_of_mem_take hk), fun k hk => h.bv k (List.mem_of_mem_take hk)⟩
  · obtain ⟨a, b, c⟩ := F.inner hl
    simp only [lessN, hl, if_false]
    exact ⟨h.keys.take ⟨1, fun _ => rfl⟩ K (by omega), h.vals, h.kids.take ⟨1, fun _ => rfl⟩ (K + 1) (by omega), by omega, h.b5, by omega, h.bh, fun k hk => h.bk k (List.mem_of_mem_take hk), h.bv⟩

set_option maxRecDepth 100000 in
set_option maxHeartbeats 4000000 in
theorem lawGrows (n : Nd) (A4 : Option Addr) (n4 c4 : Nat) (A5 : Option Addr) (n5 c5 : Nat) (A6 : Option Addr) (n6 c6 : Nat) (w : World) (h : NdAt w n A4 n4 c4 A5 n5 c5 A6 n6 c6) :
    Calls Try.prog 8 #[ndV n A4 n4 c4 A5 n5 c5 A6 n6 c6] w fun e w' => e = .returned (.bool true) ∧ Ext w w' := by
  refine hide_post fun R hR => ?_
  have H := Hd.mk h; clear h
  have l4 := Hd.mk H.out.keys.len
  have l5 := Hd.mk H.out.vals.len
  have l6 := Hd.mk H.out.kids.len
  have hfit : Hd (okB n = true → Fit n) := ⟨fun h => okB_fit h (by have := H.out.b4; have := l4.out; omega)⟩
  obtain ⟨level, lsn, right, high, keys, vals, kids⟩ := n
  simp only at l4 l5 l6
  have h4 : (n4 : Int) ≤ 140737488351232 := by have := H.out.b4; omega
  simp only [ndV]
  go_enter Try.func8, Try.ntmps8
  go_upto_region 1 with fail
  obtain ⟨W, hW⟩ : ∃ W, w.alloc (.cells #[.int .i64 level, .int .i64 lsn, .int .i64 right, .string high, .slice A4 n4 c4, .slice A5 n5 c5, .slice A6 n6 c6] 25) = W := ⟨_, rfl⟩
  have hcur := Hd.mk (Bx.first H.out hW)
  rw [hW]
  clear hW
  obtain ⟨g, hg⟩ : ∃ g, w.heap.size = g := ⟨_, rfl⟩
  rw [hg] at hcur ⊢
  have hg := Hd.mk hg
  obtain ⟨hc0, hc1, hc2, hc3, hc4, hc5, hc6⟩ := nd_facts hcur.out.box
  go_wp2_with fail
  refine (check_any (⟨level, lsn, right, high, keys, vals, kids⟩ : Nd) _ _ _ _ _ _ _ _ _ W hcur.out.nd).mono ?_
  rintro e w1 ⟨rfl, hk⟩
  have hcur1 := Hd.mk (hcur.out.go hk)
  clear hk hcur hc0 hc1 hc2 hc3 hc4 hc5 hc6
  cases hok : okB ⟨level, lsn, right, high, keys, vals, kids⟩ with
  | false =>
    rw [okE_not hok]
    clear hok
    go_wp2_with fail
    refine (speaks6_any w1).mono ?_
    rintro e w2 ⟨rfl, hk⟩
    have hk := Hd.mk hk
    go_wp2_with fail
    exact hR.out _ _ ⟨rfl, hcur1.out.ext.then' hk.out⟩
  | true =>
    rw [okE_yes hok]
    have F := Hd.mk (hfit.out hok)
    have hok := Hd.mk hok
    clear hfit
    cases n4 with
    | zero =>
      go_wp2_with fail
      refine (speaks6_any w1).mono ?_
      rintro e w2 ⟨rfl, hk⟩
      have hk := Hd.mk hk
      go_wp2_with fail
      exact hR.out _ _ ⟨rfl, hcur1.out.ext.then' hk.out⟩
    | succ K =>
      clear h4
      have hmore := Hd.mk (less_size F.out (K := K) l4.out)
      have hmok := Hd.mk (less_ok hok.out F.out (K := K) l4.out)
      have hKb : (K : Int) ≤ 200 := by have := F.out.many.1; have := l4.out; simp only at *; omega
      have hK0 : (0 : Int) ≤ (K : Int) := by omega
      have hsub : ((K + 1 : Nat) : Int) - 1 = (K : Int) := by omega
      have hz : (((K + 1 : Nat) : Int) == 0) = false := by simp; omega
      have hgk : keys[K]? = some (txt keys K) := by
        have : keys[K]? = some (keys[K]'(by have := l4.out; omega)) := List.getElem?_eq_getElem _
        rw [txt_get this]; exact this
      have hkz : ((txt keys K).size : Int) ≤ 16 := by have := (F.out.keys _ (List.mem_of_getElem? hgk)).2; omega
      have hgk := Hd.mk hgk
      obtain ⟨kk, hkk⟩ : ∃ kk, txt keys K = kk := ⟨_, rfl⟩
      rw [hkk] at hgk hmore hkz
      clear hkk
      obtain ⟨_, hcutK⟩ := cut_to Try.ES hcur1.out.nd.keys K (by omega)
      obtain ⟨ad, hA4, hcellk⟩ := hcur1.out.nd.keys.at_ (sz := 1) (fun _ => rfl) K _ hgk.out
      have hcellk := hcellk 0 _ rfl
      simp only [Nat.mul_one, Nat.add_zero] at hcellk
      subst hA4
      by_cases hl : level = 0
      · have hl0 : (level == 0) = true := by simp [hl]
        have hfl := Hd.mk (F.out.leaf hl)
        have hgv : vals[K]? = some (txt vals K) := by
          have : vals[K]? = some (vals[K]'(by have h1 := hfl.out.1; have := l4.out; simp only at h1; omega)) := List.getElem?_eq_getElem _
          rw [txt_get this]; exact this
        have hvz : ((txt vals K).size : Int) ≤ 32 := by have := hfl.out.2.2 _ (List.mem_of_getElem? hgv); omega
        have hgv := Hd.mk hgv
        obtain ⟨vv, hvv⟩ : ∃ vv, txt vals K = vv := ⟨_, rfl⟩
        rw [hvv] at hgv hvz
        simp only [hvv] at hmore
        clear hvv
        obtain ⟨_, hcutV⟩ := cut_to Try.ES hcur1.out.nd.vals K (by have h1 := hfl.out.1; have := l4.out; have := l5.out; simp only at h1; omega)
        obtain ⟨av, hA5, hcellv⟩ := hcur1.out.nd.vals.at_ (sz := 1) (fun _ => rfl) K _ hgv.out
        have hcellv := hcellv 0 _ rfl
        simp only [Nat.mul_one, Nat.add_zero] at hcellv
        subst hA5
        have hn5 : Hd (n5 = K + 1) := ⟨by have h1 := hfl.out.1; have := l4.out; have := l5.out; simp only at h1; omega⟩
        have hn5' : (K : Int) < (n5 : Int) := by have := hn5.out; omega
        have hlq := hl
        clear hl
        have hl := Hd.mk hlq
        clear hlq
        have hmn := hcur1.out.nd.less F.out (K := K) l4.out
        simp only [if_pos hl.out] at hmn
        have hmn := Hd.mk hmn
        have hlessN := Hd.mk (show lessN ⟨level, lsn, right, high, keys, vals, kids⟩ K = ⟨level, lsn, right, high, keys.take K, vals.take K, kids⟩ by unfold lessN; simp only [if_pos hl.out])
        rw [hlessN.out] at hmn hmore hmok
        obtain ⟨hc0, hc1, hc2, hc3, hc4, hc5, hc6⟩ := nd_facts hcur1.out.box
        go_upto_region 5 with fail
        obtain ⟨W2, hW2⟩ : ∃ W2, w1.alloc (.cells #[.int .i64 level, .int .i64 lsn, .int .i64 right, .string high, .slice (some ad) (K + 1) c4, .slice (some av) n5 c5, .slice A6 n6 c6] 25) = W2 := ⟨_, rfl⟩
        have hk2 : Hd (Ext w1 W2) := ⟨by rw [← hW2]; exact (ext_refl w1).alloc _⟩
        have hb2 : W2.heap[w1.heap.size]? = some (.cells #[.int .i64 level, .int .i64 lsn, .int .i64 right, .string high, .slice (some ad) (K + 1) c4, .slice (some av) n5 c5, .slice A6 n6 c6] 25 (0, 0)) := by rw [← hW2]; exact heap_alloc_new w1 _
        rw [hW2]
        clear hW2
        obtain ⟨g2, hg2⟩ : ∃ g2, w1.heap.size = g2 := ⟨_, rfl⟩
        rw [hg2] at hb2 ⊢
        have hg2 := Hd.mk hg2
        have hcur2 := Hd.mk (hcur1.out.go hk2.out)
        clear hc0 hc1 hc2 hc3 hc4 hc5 hc6
        obtain ⟨hc0, hc1, hc2, hc3, hc4, hc5, hc6⟩ := nd_facts hcur2.out.box
        obtain ⟨hd0, hd1, hd2, hd3, hd4, hd5, hd6⟩ := nd_facts hb2
        have hfz : W2.frozen? ⟨g2, 4, none⟩ = false := by simp [World.frozen?, hb2]
        have hb3 := heap_setCell_same W2 g2 4 _ _ (.slice (some ad) K c4) hb2
        have hk3 : Hd (Ext w1 (W2.setCell ⟨g2, 4, none⟩ (.slice (some ad) K c4))) := ⟨hk2.out.setCell (p := ⟨g2, 4, none⟩) (fun h => by have := hg2.out; simp only at h; omega) _⟩
        go_upto_region 6 with fail
        obtain ⟨W3, hW3⟩ : ∃ W3, W2.setCell ⟨g2, 4, none⟩ (.slice (some ad) K c4) = W3 := ⟨_, rfl⟩
        rw [hW3] at hb3 hk3 ⊢
        clear hW3 hb2 hk2 hcur2 hd0 hd1 hd2 hd3 hd4 hd5 hd6 hc0 hc1 hc2 hc3 hc4 hc5 hc6 hfz
        have hb3 : W3.heap[g2]? = some (.cells #[.int .i64 level, .int .i64 lsn, .int .i64 right, .string high, .slice (some ad) K c4, .slice (some av) n5 c5, .slice A6 n6 c6] 25 (0, 0)) := hb3
        have hcur3 := Hd.mk (hcur1.out.go hk3.out)
        have hcellk3 := hk3.out.cell hcellk id
        clear hcellk
        obtain ⟨hc0, hc1, hc2, hc3, hc4, hc5, hc6⟩ := nd_facts hcur3.out.box
        obtain ⟨hd0, hd1, hd2, hd3, hd4, hd5, hd6⟩ := nd_facts hb3
        have hfz : W3.frozen? ⟨g2, 5, none⟩ = false := by simp [World.frozen?, hb3]
        have hb4 := heap_setCell_same W3 g2 5 _ _ (.slice (some av) K c5) hb3
        have hk4 : Hd (Ext w1 (W3.setCell ⟨g2, 5, none⟩ (.slice (some av) K c5))) := ⟨hk3.out.setCell (p := ⟨g2, 5, none⟩) (fun h => by have := hg2.out; simp only at h; omega) _⟩
        have hcellv3 := hk3.out.cell hcellv id
        have hcellv0 := Hd.mk hcellv
        clear hcellv
        go_upto_region 9 with fail
        obtain ⟨W4, hW4⟩ : ∃ W4, W3.setCell ⟨g2, 5, none⟩ (.slice (some av) K c5) = W4 := ⟨_, rfl⟩
        rw [hW4] at hb4 hk4 ⊢
        clear hW4 hb3 hk3 hcur3 hd0 hd1 hd2 hd3 hd4 hd5 hd6 hc0 hc1 hc2 hc3 hc4 hc5 hc6 hfz hcellk3 hcellv3
        have hb4 : W4.heap[g2]? = some (.cells #[.int .i64 level, .int .i64 lsn, .int .i64 right, .string high, .slice (some ad) K c4, .slice (some av) K c5, .slice A6 n6 c6] 25 (0, 0)) := hb4
        have hcur := Hd.mk (hcur1.out.go hk4.out)
        have hcum : Hd (Bx w W4 g2 (⟨level, lsn, right, high, keys.take K, vals.take K, kids⟩ : Nd) (some ad) K c4 (some av) K c5 A6 n6 c6) := ⟨⟨hcur.out.ext, hb4, hmn.out.ext hk4.out⟩⟩
        clear hb4 hcur1
        obtain ⟨hc0, hc1, hc2, hc3, hc4, hc5, hc6⟩ := nd_facts hcur.out.box
        have hcellv4 := hk4.out.cell hcellv0.out id
        obtain ⟨sn, hsn⟩ : ∃ s, sizeT ⟨level, lsn, right, high, keys, vals, kids⟩ = s := ⟨_, rfl⟩
        obtain ⟨sm, hsm⟩ : ∃ s, sizeT ⟨level, lsn, right, high, keys.take K, vals.take K, kids⟩ = s := ⟨_, rfl⟩
        have hsnb : Hd (sn ≤ 256 ∧ 0 ≤ sm) := ⟨by have := F.out.size; rw [hsn] at this; refine ⟨this, ?_⟩; have h0 := (okB_fit hmok.out (by simp only; rw [List.length_take]; omega)).raw_len; rw [hsm] at h0; omega⟩
        rw [hsn, hsm] at hmore
        have hsn := Hd.mk hsn
        have hsm := Hd.mk hsm
        go_upto_region 12 with fail
        obtain ⟨he0, he1, he2, he3, he4, he5, he6⟩ := nd_facts hcur.out.drew.box
        obtain ⟨hd0, hd1, hd2, hd3, hd4, hd5, hd6⟩ := nd_facts hcum.out.box
        obtain ⟨hf0, hf1, hf2, hf3, hf4, hf5, hf6⟩ := nd_facts hcum.out.drew.box
        have hdiff : Hd (wrap64 sn - wrap64 sm = 2 + (kk.size : Int) + 2 + (vv.size : Int)) := ⟨by have := hmore.out; have := hsnb.out; unfold wrap64; simp only [hl.out, if_true] at *; omega⟩
        have hmokE := Hd.mk (okE_yes hmok.out)
        obtain ⟨x, hx⟩ : ∃ x, wrap64 sn = x := ⟨_, rfl⟩
        obtain ⟨z, hzz⟩ : ∃ z, wrap64 sm = z := ⟨_, rfl⟩
        rw [hx, hzz] at hdiff
        have hx' : wrap64 (sizeT ⟨level, lsn, right, high, keys, vals, kids⟩) = x := by rw [hsn.out]; exact hx
        have hz' : wrap64 (sizeT ⟨level, lsn, right, high, keys.take K, vals.take K, kids⟩) = z := by rw [hsm.out]; exact hzz
        have hx' := Hd.mk hx'
        have hz' := Hd.mk hz'
        have hxb : Hd (0 ≤ x ∧ x ≤ 256 ∧ 0 ≤ z ∧ z ≤ 256) := ⟨by have h1 := hsnb.out; have h2 := hmore.out; have h3 : 4 ≤ sn - sm := (by simp only [if_pos hl.out] at h2; omega); rw [← hx, ← hzz]; unfold wrap64; omega⟩
        clear hx hzz
        have hzb3 : 0 ≤ z := hxb.out.2.2.1
        have hzb4 : z ≤ 256 := hxb.out.2.2.2
        obtain rfl : x = z + (2 + (kk.size : Int) + 2 + (vv.size : Int)) := by have := hdiff.out; omega
        have hwr : IntKind.i64.wrap (z + (2 + (kk.size : Int) + 2 + (vv.size : Int)) - z) = 2 + (kk.size : Int) + 2 + (vv.size : Int) := by rw [IntKind.wrap_i64]; omega
        go_region_held3 (fun w' => (w'.cell? ⟨g, 0, none⟩ = some (.int .i64 level) ∧ w'.cell? ⟨g, 1, none⟩ = some (.int .i64 lsn) ∧ w'.cell? ⟨g, 2, none⟩ = some (.int .i64 right) ∧ w'.cell? ⟨g, 3, none⟩ = some (.string high) ∧ w'.cell? ⟨g, 4, none⟩ = some (.slice (some ad) (K + 1) c4) ∧ w'.cell? ⟨g, 5, none⟩ = some (.slice (some av) n5 c5) ∧ w'.cell? ⟨g, 6, none⟩ = some (.slice A6 n6 c6)) ∧
            (w'.cell? ⟨g2, 0, none⟩ = some (.int .i64 level) ∧ w'.cell? ⟨g2, 1, none⟩ = some (.int .i64 lsn) ∧ w'.cell? ⟨g2, 2, none⟩ = some (.int .i64 right) ∧ w'.cell? ⟨g2, 3, none⟩ = some (.string high) ∧ w'.cell? ⟨g2, 4, none⟩ = some (.slice (some ad) K c4) ∧ w'.cell? ⟨g2, 5, none⟩ = some (.slice (some av) K c5) ∧ w'.cell? ⟨g2, 6, none⟩ = some (.slice A6 n6 c6)))
          (first | exact ⟨⟨hc0, hc1, hc2, hc3, hc4, hc5, hc6⟩, ⟨hd0, hd1, hd2, hd3, hd4, hd5, hd6⟩⟩ | exact ⟨⟨he0, he1, he2, he3, he4, he5, he6⟩, ⟨hf0, hf1, hf2, hf3, hf4, hf5, hf6⟩⟩) (first
            | (go_at_call_of 27 n5; refine (size_any (⟨level, lsn, right, high, keys, vals, kids⟩ : Nd) (some ad) (K + 1) c4 (some av) n5 c5 A6 n6 c6 _ ?_).mono ?_; (first | exact hcur.out.nd | exact hcur.out.drew.nd); rintro e w' ⟨rfl, hk⟩; rw [hx'.out]; (first | (have hcurq := Hd.mk (hcur.out.go hk)) | (have hcurq := Hd.mk (hcur.out.drew.go hk))); (first | (have hcumq := Hd.mk (hcum.out.go hk)) | (have hcumq := Hd.mk (hcum.out.drew.go hk))); clear hk hcur hcum hc0 hc1 hc2 hc3 hc4 hc5 hc6 hd0 hd1 hd2 hd3 hd4 hd5 hd6; have hcur := hcurq; have hcum := hcumq; clear hcurq hcumq; obtain ⟨hc0, hc1, hc2, hc3, hc4, hc5, hc6⟩ := nd_facts hcur.out.box; obtain ⟨hd0, hd1, hd2, hd3, hd4, hd5, hd6⟩ := nd_facts hcum.out.box)
            | (go_at_call 27; refine (size_any (⟨level, lsn, right, high, keys.take K, vals.take K, kids⟩ : Nd) (some ad) K c4 (some av) K c5 A6 n6 c6 _ ?_).mono ?_; (first | exact hcum.out.nd | exact hcum.out.drew.nd); rintro e w' ⟨rfl, hk⟩; rw [hz'.out]; (first | (have hcurq := Hd.mk (hcur.out.go hk)) | (have hcurq := Hd.mk (hcur.out.drew.go hk))); (first | (have hcumq := Hd.mk (hcum.out.go hk)) | (have hcumq := Hd.mk (hcum.out.drew.go hk))); clear hk hcur hcum hc0 hc1 hc2 hc3 hc4 hc5 hc6 hd0 hd1 hd2 hd3 hd4 hd5 hd6; have hcur := hcurq; have hcum := hcumq; clear hcurq hcumq; obtain ⟨hc0, hc1, hc2, hc3, hc4, hc5, hc6⟩ := nd_facts hcur.out.box; obtain ⟨hd0, hd1, hd2, hd3, hd4, hd5, hd6⟩ := nd_facts hcum.out.box)
            | (go_at_call 25; refine (check_any (⟨level, lsn, right, high, keys.take K, vals.take K, kids⟩ : Nd) (some ad) K c4 (some av) K c5 A6 n6 c6 _ ?_).mono ?_; (first | exact hcum.out.nd | exact hcum.out.drew.nd); rintro e w' ⟨rfl, hk⟩; rw [hmokE.out]; (first | (have hcurq := Hd.mk (hcur.out.go hk)) | (have hcurq := Hd.mk (hcur.out.drew.go hk))); (first | (have hcumq := Hd.mk (hcum.out.go hk)) | (have hcumq := Hd.mk (hcum.out.drew.go hk))); clear hk hcur hcum hc0 hc1 hc2 hc3 hc4 hc5 hc6 hd0 hd1 hd2 hd3 hd4 hd5 hd6; have hcur := hcurq; have hcum := hcumq; clear hcurq hcumq; obtain ⟨hc0, hc1, hc2, hc3, hc4, hc5, hc6⟩ := nd_facts hcur.out.box; obtain ⟨hd0, hd1, hd2, hd3, hd4, hd5, hd6⟩ := nd_facts hcum.out.box)
            | (go_at_call 29; refine (speaks6_any _).mono ?_; rintro e w' ⟨rfl, hk⟩; (first | (have hcurq := Hd.mk (hcur.out.go hk)) | (have hcurq := Hd.mk (hcur.out.drew.go hk))); (first | (have hcumq := Hd.mk (hcum.out.go hk)) | (have hcumq := Hd.mk (hcum.out.drew.go hk))); clear hk hcur hcum hc0 hc1 hc2 hc3 hc4 hc5 hc6 hd0 hd1 hd2 hd3 hd4 hd5 hd6; have hcur := hcurq; have hcum := hcumq; clear hcurq hcumq; obtain ⟨hc0, hc1, hc2, hc3, hc4, hc5, hc6⟩ := nd_facts hcur.out.box; obtain ⟨hd0, hd1, hd2, hd3, hd4, hd5, hd6⟩ := nd_facts hcum.out.box))
        all_goals
          go_wp2_with fail
          first | exact hR.out _ _ ⟨rfl, hcur.out.ext⟩ | (go_ret; exact hR.out _ _ ⟨rfl, hcur.out.ext⟩)
      · have hl0 : (level == 0) = false := by simp [hl]
        have hfl := Hd.mk (F.out.inner hl)
        obtain ⟨_, hcutV⟩ := cut_to Try.EI hcur1.out.nd.kids (K + 1) (by have h1 := hfl.out.1; have := l4.out; have := l6.out; simp only at h1; omega)
        have hcutV' : ∀ w', (Instr.slice 23 (.slice A6 n6 c6) none (some (.int .i64 ((K : Int) + 1))) none).run Try.prog w' = .ok (.slice A6 (K + 1) c6) w' := hcutV
        have hlq := hl
        clear hl
        have hl := Hd.mk hlq
        clear hlq
        have hmn := hcur1.out.nd.less F.out (K := K) l4.out
        simp only [if_neg hl.out] at hmn
        have hmn := Hd.mk hmn
        have hlessN := Hd.mk (show lessN ⟨level, lsn, right, high, keys, vals, kids⟩ K = ⟨level, lsn, right, high, keys.take K, vals, kids.take (K + 1)⟩ by unfold lessN; simp only [if_neg hl.out])
        rw [hlessN.out] at hmn hmore hmok
        obtain ⟨hc0, hc1, hc2, hc3, hc4, hc5, hc6⟩ := nd_facts hcur1.out.box
        go_upto_region 5 with fail
        obtain ⟨W2, hW2⟩ : ∃ W2, w1.alloc (.cells #[.int .i64 level, .int .i64 lsn, .int .i64 right, .string high, .slice (some ad) (K + 1) c4, .slice A5 n5 c5, .slice A6 n6 c6] 25) = W2 := ⟨_, rfl⟩
        have hk2 : Hd (Ext w1 W2) := ⟨by rw [← hW2]; exact (ext_refl w1).alloc _⟩
        have hb2 : W2.heap[w1.heap.size]? = some (.cells #[.int .i64 level, .int .i64 lsn, .int .i64 right, .string high, .slice (some ad) (K + 1) c4, .slice A5 n5 c5, .slice A6 n6 c6] 25 (0, 0)) := by rw [← hW2]; exact heap_alloc_new w1 _
        rw [hW2]
        clear hW2
        obtain ⟨g2, hg2⟩ : ∃ g2, w1.heap.size = g2 := ⟨_, rfl⟩
        rw [hg2] at hb2 ⊢
        have hg2 := Hd.mk hg2
        have hcur2 := Hd.mk (hcur1.out.go hk2.out)
        clear hc0 hc1 hc2 hc3 hc4 hc5 hc6
        obtain ⟨hc0, hc1, hc2, hc3, hc4, hc5, hc6⟩ := nd_facts hcur2.out.box
        obtain ⟨hd0, hd1, hd2, hd3, hd4, hd5, hd6⟩ := nd_facts hb2
        have hfz : W2.frozen? ⟨g2, 4, none⟩ = false := by simp [World.frozen?, hb2]
        have hb3 := heap_setCell_same W2 g2 4 _ _ (.slice (some ad) K c4) hb2
        have hk3 : Hd (Ext w1 (W2.setCell ⟨g2, 4, none⟩ (.slice (some ad) K c4))) := ⟨hk2.out.setCell (p := ⟨g2, 4, none⟩) (fun h => by have := hg2.out; simp only at h; omega) _⟩
        go_upto_region 6 with fail
        obtain ⟨W3, hW3⟩ : ∃ W3, W2.setCell ⟨g2, 4, none⟩ (.slice (some ad) K c4) = W3 := ⟨_, rfl⟩
        rw [hW3] at hb3 hk3 ⊢
        clear hW3 hb2 hk2 hcur2 hd0 hd1 hd2 hd3 hd4 hd5 hd6 hc0 hc1 hc2 hc3 hc4 hc5 hc6 hfz
        have hb3 : W3.heap[g2]? = some (.cells #[.int .i64 level, .int .i64 lsn, .int .i64 right, .string high, .slice (some ad) K c4, .slice A5 n5 c5, .slice A6 n6 c6] 25 (0, 0)) := hb3
        have hcur3 := Hd.mk (hcur1.out.go hk3.out)
        have hcellk3 := hk3.out.cell hcellk id
        clear hcellk
        obtain ⟨hc0, hc1, hc2, hc3, hc4, hc5, hc6⟩ := nd_facts hcur3.out.box
        obtain ⟨hd0, hd1, hd2, hd3, hd4, hd5, hd6⟩ := nd_facts hb3
        have hfz : W3.frozen? ⟨g2, 6, none⟩ = false := by simp [World.frozen?, hb3]
        have hb4 := heap_setCell_same W3 g2 6 _ _ (.slice A6 (K + 1) c6) hb3
        have hk4 : Hd (Ext w1 (W3.setCell ⟨g2, 6, none⟩ (.slice A6 (K + 1) c6))) := ⟨hk3.out.setCell (p := ⟨g2, 6, none⟩) (fun h => by have := hg2.out; simp only at h; omega) _⟩
        go_upto_region 11 with fail
        obtain ⟨W4, hW4⟩ : ∃ W4, W3.setCell ⟨g2, 6, none⟩ (.slice A6 (K + 1) c6) = W4 := ⟨_, rfl⟩
        rw [hW4] at hb4 hk4 ⊢
        clear hW4 hb3 hk3 hcur3 hd0 hd1 hd2 hd3 hd4 hd5 hd6 hc0 hc1 hc2 hc3 hc4 hc5 hc6 hfz hcellk3
        have hb4 : W4.heap[g2]? = some (.cells #[.int .i64 level, .int .i64 lsn, .int .i64 right, .string high, .slice (some ad) K c4, .slice A5 n5 c5, .slice A6 (K + 1) c6] 25 (0, 0)) := hb4
        have hcur := Hd.mk (hcur1.out.go hk4.out)
        have hcum : Hd (Bx w W4 g2 (⟨level, lsn, right, high, keys.take K, vals, kids.take (K + 1)⟩ : Nd) (some ad) K c4 A5 n5 c5 A6 (K + 1) c6) := ⟨⟨hcur.out.ext, hb4, hmn.out.ext hk4.out⟩⟩
        clear hb4 hcur1
        obtain ⟨hc0, hc1, hc2, hc3, hc4, hc5, hc6⟩ := nd_facts hcur.out.box
        obtain ⟨sn, hsn⟩ : ∃ s, sizeT ⟨level, lsn, right, high, keys, vals, kids⟩ = s := ⟨_, rfl⟩
        obtain ⟨sm, hsm⟩ : ∃ s, sizeT ⟨level, lsn, right, high, keys.take K, vals, kids.take (K + 1)⟩ = s := ⟨_, rfl⟩
        have hsnb : Hd (sn ≤ 256 ∧ 0 ≤ sm) := ⟨by have := F.out.size; rw [hsn] at this; refine ⟨this, ?_⟩; have h0 := (okB_fit hmok.out (by simp only; rw [List.length_take]; omega)).raw_len; rw [hsm] at h0; omega⟩
        rw [hsn, hsm] at hmore
        have hsn := Hd.mk hsn
        have hsm := Hd.mk hsm
        go_upto_region 12 with fail
        obtain ⟨he0, he1, he2, he3, he4, he5, he6⟩ := nd_facts hcur.out.drew.box
        obtain ⟨hd0, hd1, hd2, hd3, hd4, hd5, hd6⟩ := nd_facts hcum.out.box
        obtain ⟨hf0, hf1, hf2, hf3, hf4, hf5, hf6⟩ := nd_facts hcum.out.drew.box
        have hdiff : Hd (wrap64 sn - wrap64 sm = 2 + (kk.size : Int) + 4) := ⟨by have := hmore.out; have := hsnb.out; unfold wrap64; simp only [hl.out, if_false] at *; omega⟩
        have hmokE := Hd.mk (okE_yes hmok.out)
        obtain ⟨x, hx⟩ : ∃ x, wrap64 sn = x := ⟨_, rfl⟩
        obtain ⟨z, hzz⟩ : ∃ z, wrap64 sm = z := ⟨_, rfl⟩
        rw [hx, hzz] at hdiff
        have hx' : wrap64 (sizeT ⟨level, lsn, right, high, keys, vals, kids⟩) = x := by rw [hsn.out]; exact hx
        have hz' : wrap64 (sizeT ⟨level, lsn, right, high, keys.take K, vals, kids.take (K + 1)⟩) = z := by rw [hsm.out]; exact hzz
        have hx' := Hd.mk hx'
        have hz' := Hd.mk hz'
        have hxb : Hd (0 ≤ x ∧ x ≤ 256 ∧ 0 ≤ z ∧ z ≤ 256) := ⟨by have h1 := hsnb.out; have h2 := hmore.out; have h3 : 4 ≤ sn - sm := (by simp only [if_neg hl.out] at h2; omega); rw [← hx, ← hzz]; unfold wrap64; omega⟩
        clear hx hzz
        have hzb3 : 0 ≤ z := hxb.out.2.2.1
        have hzb4 : z ≤ 256 := hxb.out.2.2.2
        obtain rfl : x = z + (2 + (kk.size : Int) + 4) := by have := hdiff.out; omega
        have hwr : IntKind.i64.wrap (z + (2 + (kk.size : Int) + 4) - z) = 2 + (kk.size : Int) + 4 := by rw [IntKind.wrap_i64]; omega
        go_region_held3 (fun w' => (w'.cell? ⟨g, 0, none⟩ = some (.int .i64 level) ∧ w'.cell? ⟨g, 1, none⟩ = some (.int .i64 lsn) ∧ w'.cell? ⟨g, 2, none⟩ = some (.int .i64 right) ∧ w'.cell? ⟨g, 3, none⟩ = some (.string high) ∧ w'.cell? ⟨g, 4, none⟩ = some (.slice (some ad) (K + 1) c4) ∧ w'.cell? ⟨g, 5, none⟩ = some (.slice A5 n5 c5) ∧ w'.cell? ⟨g, 6, none⟩ = some (.slice A6 n6 c6)) ∧
            (w'.cell? ⟨g2, 0, none⟩ = some (.int .i64 level) ∧ w'.cell? ⟨g2, 1, none⟩ = some (.int .i64 lsn) ∧ w'.cell? ⟨g2, 2, none⟩ = some (.int .i64 right) ∧ w'.cell? ⟨g2, 3, none⟩ = some (.string high) ∧ w'.cell? ⟨g2, 4, none⟩ = some (.slice (some ad) K c4) ∧ w'.cell? ⟨g2, 5, none⟩ = some (.slice A5 n5 c5) ∧ w'.cell? ⟨g2, 6, none⟩ = some (.slice A6 (K + 1) c6)))
          (first | exact ⟨⟨hc0, hc1, hc2, hc3, hc4, hc5, hc6⟩, ⟨hd0, hd1, hd2, hd3, hd4, hd5, hd6⟩⟩ | exact ⟨⟨he0, he1, he2, he3, he4, he5, he6⟩, ⟨hf0, hf1, hf2, hf3, hf4, hf5, hf6⟩⟩) (first
            | (go_at_call_of 27 n6; refine (size_any (⟨level, lsn, right, high, keys, vals, kids⟩ : Nd) (some ad) (K + 1) c4 A5 n5 c5 A6 n6 c6 _ ?_).mono ?_; (first | exact hcur.out.nd | exact hcur.out.drew.nd); rintro e w' ⟨rfl, hk⟩; rw [hx'.out]; (first | (have hcurq := Hd.mk (hcur.out.go hk)) | (have hcurq := Hd.mk (hcur.out.drew.go hk))); (first | (have hcumq := Hd.mk (hcum.out.go hk)) | (have hcumq := Hd.mk (hcum.out.drew.go hk))); clear hk hcur hcum hc0 hc1 hc2 hc3 hc4 hc5 hc6 hd0 hd1 hd2 hd3 hd4 hd5 hd6; have hcur := hcurq; have hcum := hcumq; clear hcurq hcumq; obtain ⟨hc0, hc1, hc2, hc3, hc4, hc5, hc6⟩ := nd_facts hcur.out.box; obtain ⟨hd0, hd1, hd2, hd3, hd4, hd5, hd6⟩ := nd_facts hcum.out.box)
            | (go_at_call 27; refine (size_any (⟨level, lsn, right, high, keys.take K, vals, kids.take (K + 1)⟩ : Nd) (some ad) K c4 A5 n5 c5 A6 (K + 1) c6 _ ?_).mono ?_; (first | exact hcum.out.nd | exact hcum.out.drew.nd); rintro e w' ⟨rfl, hk⟩; rw [hz'.out]; (first | (have hcurq := Hd.mk (hcur.out.go hk)) | (have hcurq := Hd.mk (hcur.out.drew.go hk))); (first | (have hcumq := Hd.mk (hcum.out.go hk)) | (have hcumq := Hd.mk (hcum.out.drew.go hk))); clear hk hcur hcum hc0 hc1 hc2 hc3 hc4 hc5 hc6 hd0 hd1 hd2 hd3 hd4 hd5 hd6; have hcur := hcurq; have hcum := hcumq; clear hcurq hcumq; obtain ⟨hc0, hc1, hc2, hc3, hc4, hc5, hc6⟩ := nd_facts hcur.out.box; obtain ⟨hd0, hd1, hd2, hd3, hd4, hd5, hd6⟩ := nd_facts hcum.out.box)
            | (go_at_call 25; refine (check_any (⟨level, lsn, right, high, keys.take K, vals, kids.take (K + 1)⟩ : Nd) (some ad) K c4 A5 n5 c5 A6 (K + 1) c6 _ ?_).mono ?_; (first | exact hcum.out.nd | exact hcum.out.drew.nd); rintro e w' ⟨rfl, hk⟩; rw [hmokE.out]; (first | (have hcurq := Hd.mk (hcur.out.go hk)) | (have hcurq := Hd.mk (hcur.out.drew.go hk))); (first | (have hcumq := Hd.mk (hcum.out.go hk)) | (have hcumq := Hd.mk (hcum.out.drew.go hk))); clear hk hcur hcum hc0 hc1 hc2 hc3 hc4 hc5 hc6 hd0 hd1 hd2 hd3 hd4 hd5 hd6; have hcur := hcurq; have hcum := hcumq; clear hcurq hcumq; obtain ⟨hc0, hc1, hc2, hc3, hc4, hc5, hc6⟩ := nd_facts hcur.out.box; obtain ⟨hd0, hd1, hd2, hd3, hd4, hd5, hd6⟩ := nd_facts hcum.out.box)
            | (go_at_call 29; refine (speaks6_any _).mono ?_; rintro e w' ⟨rfl, hk⟩; (first | (have hcurq := Hd.mk (hcur.out.go hk)) | (have hcurq := Hd.mk (hcur.out.drew.go hk))); (first | (have hcumq := Hd.mk (hcum.out.go hk)) | (have hcumq := Hd.mk (hcum.out.drew.go hk))); clear hk hcur hcum hc0 hc1 hc2 hc3 hc4 hc5 hc6 hd0 hd1 hd2 hd3 hd4 hd5 hd6; have hcur := hcurq; have hcum := hcumq; clear hcurq hcumq; obtain ⟨hc0, hc1, hc2, hc3, hc4, hc5, hc6⟩ := nd_facts hcur.out.box; obtain ⟨hd0, hd1, hd2, hd3, hd4, hd5, hd6⟩ := nd_facts hcum.out.box))
        all_goals
          go_wp2_with fail
          first | exact hR.out _ _ ⟨rfl, hcur.out.ext⟩ | (go_ret; exact hR.out _ _ ⟨rfl, hcur.out.ext⟩)
end Go.Proofs.Ythpfkdaijiaalaa
