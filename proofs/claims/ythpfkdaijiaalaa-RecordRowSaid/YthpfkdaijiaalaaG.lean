/- The reference's wire: numbers and texts as bytes, its reader. -/
import Derived.Test.YthpfkdaijiaalaaF
namespace Go.Proofs.Ythpfkdaijiaalaa
open Go.RowKit

theorem rsized_any (n : Int) (w : World) : Calls Try.prog 129 #[.int .i64 n] w fun e w' => e = .returned (.bool (sizedB n)) ∧ w = w' := by
  refine hide_post fun R hR => ?_
  go_enter Try.func129, Try.ntmps129
  go_wp2
  all_goals exact hR.out _ _ ⟨by simp [sizedB, *], rfl⟩

theorem refnum_any (n : Int) (k : Nat) (hk : k ≤ 8) (hn0 : 0 ≤ n) (hn : n ≤ 9223372036854775807) (w : World) :
    Calls Try.prog 86 #[.int .i64 n, .int .i64 k] w (RetOwn enc8 1 5 w (leB n.toNat k)) := by
  refine hide_post fun R hR => ?_
  obtain ⟨n, rfl⟩ := Int.eq_ofNat_of_zero_le hn0
  simp only [Int.toNat_natCast] at hR
  have hk8 : (k : Int) ≤ 8 := by omega
  have hk0 : (0 : Int) ≤ (k : Int) := by omega
  have HK := Hd.mk hk; have HN := Hd.mk hn; clear hk hn hn0
  go_enter Try.func86, Try.ntmps86
  go_wp2
  go_loopg [0, 5, 6] k (fun k' v0 v5 v6 wr => ∃ (i : Nat) (A : Option Addr) (N c : Nat), Hd (i ≤ k ∧ k' = k - i) ∧ v6 = .int .i64 i ∧ v0 = .int .i64 ((n / 256 ^ i : Nat) : Int) ∧ v5 = .slice A N c ∧ Hd (N = i) ∧ Hd (Own enc8 1 5 w.heap.size wr A N c (leB n i)) ∧ Hd (Ext w wr))
  case atStart => exact ⟨0, none, 0, 0, ⟨by omega⟩, rfl, by simp, rfl, ⟨rfl⟩, ⟨Own.nil_ _ _ _ _ _⟩, ⟨ext_refl w⟩⟩
  case round =>
    obtain ⟨i, A, N, c, hi, rfl, rfl, rfl, hN, ho, hk1⟩ := hrel
    have hik : (i : Int) ≤ 8 := by have := hi.out; omega
    have hnn : (0 : Int) ≤ ((n / 256 ^ i : Nat) : Int) := Int.natCast_nonneg _
    have hnb : ((n / 256 ^ i : Nat) : Int) ≤ 9223372036854775807 := by have := Nat.div_le_self n (256 ^ i); have := HN.out; omega
    have he : Hd (((n / 256 ^ i : Nat) : Int) / 256 = ((n / 256 ^ (i + 1) : Nat) : Int)) := ⟨by rw [Nat.pow_succ, ← Nat.div_div_eq_div_mul]; simp⟩
    have hu : Hd (enc8 (UInt8.ofNat (n / 256 ^ i)) = [.int .u8 (((n / 256 ^ i : Nat) : Int) % 256)]) := ⟨u8_of _⟩
    have hsn : Hd (leB n (i + 1) = leB n i ++ [UInt8.ofNat (n / 256 ^ i)]) := ⟨leB_snoc n i⟩
    generalize n / 256 ^ i = m at hnn hnb he hu hsn
    by_cases hlt : (i : Int) < k
    · go_wp2_with (at_builtin; refine wp_push Try.E8 rfl _ _ rfl rfl ho.out (UInt8.ofNat m) _ ?c1 rfl ?c2 ?c3 ?c4 ?_)
      case c1 => rw [hu.out]
      case c2 => have := hN.out; have := hi.out; omega
      case c3 => have := hN.out; have := hi.out; omega
      case c4 => exact hk1.out.size
      intro A' c' w' ho' hk' _
      have ho' := Hd.mk ho'
      have hk' : Hd (Ext w w') := ⟨hk1.out.trans hk' (fun k h1 hf => by have := (ho.out.ge hf).1; omega)⟩
      go_wp2
      go_roundg (k - (i + 1))
      case measure => have := hi.out; omega
      case rel => exact ⟨i + 1, A', N + 1, c', ⟨by have := hi.out; omega⟩, by go_num, by rw [← he.out], rfl, ⟨by have := hN.out; omega⟩, ⟨by rw [hsn.out]; exact ho'.out⟩, hk'⟩
    · have hie : Hd (i = k) := ⟨by have := hi.out; omega⟩
      go_wp2
      refine hR.out _ _ ⟨A, c, ?_, ?_, hk1.out⟩
      · rw [leB_len, ← hie.out, ← hN.out]
      · rw [leB_len, ← hie.out]; rw [← hN.out]; have := ho.out; rw [← hN.out] at this; exact this

def textB (s : ByteArray) : List UInt8 := leB s.size 2 ++ s.toList
theorem textB_len (s : ByteArray) : (textB s).length = 2 + s.size := by simp [textB, leB_len, size_list]
theorem Try.z5 : ∃ i, Try.prog.info? 5 = some i ∧ i.zero = some (.int .u8 0) := by
  have h : (Try.prog.info? 5).map (fun i => (i.zero, i.size, i.bytes)) = some (some (.int .u8 0), 1, 1) := by kernel_rfl
  obtain ⟨i, hi, h1, _⟩ := info_parts h; exact ⟨i, hi, h1⟩

theorem reftext_any (s : ByteArray) (hs : s.size ≤ 140737488351232) (w : World) : Calls Try.prog 87 #[.string s] w (RetOwn enc8 1 5 w (textB s)) := by
  refine hide_post fun R hR => ?_
  have HS := Hd.mk hs; clear hs
  have hs' : (s.size : Int) ≤ 140737488351232 := by have := HS.out; omega
  go_enter Try.func87, Try.ntmps87
  go_wp2_with fail
  refine (refnum_any _ 2 (by omega) (by omega) (by omega) w).mono ?_
  rintro e w1 ⟨A1, c1, rfl, ho1, hk1⟩
  rw [leB_len] at ho1 ⊢
  simp only [Int.toNat_natCast] at ho1
  have ho1 := Hd.mk ho1
  have hk1 := Hd.mk hk1
  go_wp2_with (at_builtin; refine wp_appStr Try.E8 Try.underlying9 Try.z5 rfl _ _ rfl rfl ho1.out rfl ?c2 ?c3 ?_)
  case c2 => have := HS.out; omega
  case c3 => exact hk1.out.size
  intro A' c' w2 ho' hk'
  have ho' := Hd.mk ho'
  have hk' : Hd (Ext w w2) := ⟨hk1.out.trans hk' (fun k h1 hf => by have := (ho1.out.ge hf).1; omega)⟩
  go_wp2
  refine hR.out _ _ ⟨A', c', ?_, ?_, hk'.out⟩
  · rw [textB_len]; rfl
  · rw [textB_len]; exact ho'.out

/-- The reference's reader. -/
abbrev Rr := RdT 140
def RetNumR (w : World) (g : Nat) (r : Int × Int × List UInt8 × Int) (e : Ending) (w' : World) : Prop :=
  e = .returned (.tuple #[.int .i64 r.1, .int .i64 r.2.1]) ∧ Rr w' g r.2.2.1 r.2.2.2 ∧ Keep (fun k => k = g) w w'
def RetTextR (w : World) (g : Nat) (r : List UInt8 × Int × List UInt8 × Int) (e : Ending) (w' : World) : Prop :=
  e = .returned (.tuple #[.string (bsStr r.1), .int .i64 r.2.1]) ∧ Rr w' g r.2.2.1 r.2.2.2 ∧ Keep (fun k => k = g) w w'

/-- Behind a store of the error: the two cells as they are read. -/
theorem rerr_cells {T : Nat} {w : World} {g N c : Nat} {A : Option Addr} {er e0 : Int} (hb : w.heap[g]? = some (.cells #[.slice A N c, .int .i64 er] T (0, 0))) :
    (w.setCell ⟨g, 1, none⟩ (.int .i64 e0)).cell? ⟨g, 1, none⟩ = some (.int .i64 e0) := by
  have := heap_setCell_same w g 1 _ _ (.int .i64 e0) hb
  simp [World.cell?, this]

theorem leN_take_succ (xs : List UInt8) (i : Nat) (x : UInt8) (h : xs[i]? = some x) (k : Nat) (hk : i < k) : leN ((xs.take k).drop i) = x.toNat + 256 * leN ((xs.take k).drop (i + 1)) := by
  have h1 : (xs.take k)[i]? = some x := by rw [List.getElem?_take, if_pos hk]; exact h
  have h2 := (List.getElem?_eq_some_iff.1 h1)
  obtain ⟨h3, h4⟩ := h2
  rw [List.drop_eq_getElem_cons h3, h4, leN]

theorem leN_append (a b : List UInt8) : leN (a ++ b) = leN a + 256 ^ a.length * leN b := by
  induction a with
  | nil => simp [leN]
  | cons y ys ih =>
    have : (256 : Nat) ^ (ys.length + 1) * leN b = 256 * (256 ^ ys.length * leN b) := by rw [Nat.pow_succ, Nat.mul_comm (256 ^ ys.length) 256, Nat.mul_assoc]
    simp only [List.cons_append, leN, ih, List.length_cons, this]; omega

set_option maxRecDepth 100000 in
theorem refrnum_any (g : Nat) (bs : List UInt8) (er : Int) (k : Nat) (hk : sizedB k = true) (w : World) (h : Rr w g bs er) (hmb : bs.length ≤ 140737488355328) :
    Calls Try.prog 93 #[.pointer (some ⟨g, 0, none⟩), .int .i64 k] w (RetNumR w g (rNum bs er k)) := by
  refine hide_post fun R hR => ?_
  obtain ⟨A, N, c, hN, hs, hc0, hc1, hf0, hf1, hne, hg, hb⟩ := h.get
  have HR := Hd.mk h; clear h
  have HK : Hd (1 ≤ k ∧ k ≤ 8) := ⟨by have := hk; simp [sizedB] at this; omega⟩
  have hk0 : (0 : Int) ≤ (k : Int) := by omega
  have hkc : (k : Int) ≤ 8 := by have := HK.out; omega
  have hnb : (N : Int) ≤ 140737488355328 := by have := hN.out; omega
  clear hmb
  by_cases hw : er = 0
  · subst hw
    by_cases hl : N < k
    · have hl' : (N : Int) < (k : Int) := by omega
      have H := Hd.mk (HR.out.fail 10)
      have hc2 := rerr_cells (e0 := 10) hb.out
      have hl := Hd.mk hl
      go_enter Try.func93, Try.ntmps93
      go_wp2_with (first | (go_at_call 129; refine (rsized_any _ _).mono ?_; rintro e w' ⟨rfl, rfl⟩))
      go_quiet (fail)
      go_wp2
      exact hR.out _ _ (by rw [rNum_short (by have := hN.out; have := hl.out; omega)]; exact ⟨rfl, H.out.1.keep ((Keep.refl (fun _ => False) _).drewN _) (fun _ h => h.elim), H.out.2.drewN _⟩)
    · have hl' : (k : Int) ≤ (N : Int) := by omega
      have HL : Hd (k ≤ bs.length) := ⟨by have := hN.out; omega⟩
      obtain ⟨A1, N1, c1, hN1, hs1, ha1, hcut2⟩ := cut_from Try.E8 hs.out k (by omega)
      have hmv := Hd.mk (RdT.move (A' := A1) (N' := N1) (c' := c1) (bs' := bs.drop k) hb.out hs1.out (fun h0 ad e => by
          obtain ⟨a0, e1, e2⟩ := ha1.out ad e
          rw [e2]; exact hne.out (fun e3 => h0 (by rw [e3]; simp)) a0 e1))
      clear hl
      by_cases hneg : 9223372036854775808 ≤ leN (bs.take k)
      · obtain rfl : k = 8 := by
          have h1 := leN_lt (bs.take k)
          have h2 : (bs.take k).length = k := by rw [List.length_take]; have := HL.out; omega
          rw [h2] at h1
          have h3 : ¬ k ≤ 7 := fun h => by
            have : (256 : Nat) ^ k ≤ 256 ^ 7 := Nat.pow_le_pow_right (by omega) h
            omega
          have := HK.out; omega
        obtain ⟨x, hx⟩ : ∃ x, bs[7]? = some x := ⟨bs[7]'(by have := HL.out; omega), by rw [List.getElem?_eq_getElem]⟩
        have hxv : (127 : Int) < (x.toNat : Int) := by
          have e0 : ∀ i, i < 8 → ∃ y : UInt8, bs[i]? = some y := fun i hi => ⟨bs[i]'(by have := HL.out; omega), by rw [List.getElem?_eq_getElem]⟩
          have e7 := leN_take_succ bs 7 x hx 8 (by omega)
          have hz : leN ((bs.take 8).drop (7 + 1)) = 0 := by rw [List.drop_eq_nil_of_le (by rw [List.length_take]; omega)]; rfl
          have hp := leN_lt ((bs.take 8).take 7)
          have h8 : leN (bs.take 8) = leN ((bs.take 8).take 7) + 256 ^ 7 * leN ((bs.take 8).drop 7) := by
            have := leN_append ((bs.take 8).take 7) ((bs.take 8).drop 7)
            rw [List.take_append_drop] at this
            rw [this]; congr 2; rw [List.length_take, List.length_take]; have := HL.out; congr 1; omega
          have hl7 : ((bs.take 8).take 7).length = 7 := by rw [List.length_take, List.length_take]; have := HL.out; omega
          rw [hl7] at hp
          omega
        obtain ⟨ad, rfl, hcell⟩ := hs.out.at_ (sz := 1) (fun _ => rfl) 7 x hx
        have hcell : w.cell? (ad.add 7) = some (.int .u8 x.toNat) := hcell 0 _ rfl
        have hcell' : w.cell? ⟨ad.block, ad.off + 7, none⟩ = some (.int .u8 x.toNat) := hcell
        have H := Hd.mk (HR.out.fail 1)
        have hc2 := rerr_cells (e0 := 1) hb.out
        have hneg := Hd.mk hneg
        have h7 : (7 : Int) < (N : Int) := by have := hl'; omega
        clear hcut2
        go_enter Try.func93, Try.ntmps93
        go_wp2_with (first | (go_at_call 129; refine (rsized_any _ _).mono ?_; rintro e w' ⟨rfl, rfl⟩))
        go_loopg [6, 7] 1 (fun k' v6 v7 wr => v6 = .int .i64 0 ∧ v7 = .int .i64 7 ∧ w = wr)
        case atStart => exact ⟨rfl, rfl, rfl⟩
        case round =>
          obtain ⟨rfl, rfl, rfl⟩ := hrel
          go_wp2
          go_quiet (fail)
          go_wp2
          exact hR.out _ _ (by rw [rNum_neg HL.out hneg.out]; exact ⟨rfl, H.out.1.keep ((Keep.refl (fun _ => False) _).drewN _) (fun _ h => h.elim), H.out.2.drewN _⟩)
      · have hneg : Hd (leN (bs.take k) < 9223372036854775808) := ⟨by omega⟩
        go_enter Try.func93, Try.ntmps93
        go_wp2_with (first | (go_at_call 129; refine (rsized_any _ _).mono ?_; rintro e w' ⟨rfl, rfl⟩))
        go_loopg [6, 7] k (fun k' v6 v7 wr => ∃ (q m : Nat) (z : Int), Hd (q ≤ k ∧ k' = q ∧ z = (q : Int) - 1) ∧ v7 = .int .i64 z ∧ v6 = .int .i64 m ∧ Hd (leN ((bs.take k).drop q) = m) ∧ w = wr)
        case atStart => exact ⟨k, 0, _, ⟨⟨by omega, rfl, rfl⟩⟩, rfl, rfl, ⟨by rw [List.drop_eq_nil_of_le (by rw [List.length_take]; omega)]; rfl⟩, rfl⟩
        case round =>
          obtain ⟨q, m, z, hq, rfl, rfl, hm, rfl⟩ := hrel
          cases q with
          | zero =>
            obtain rfl : z = -1 := by have := hq.out; omega
            go_wp2
            exact hR.out _ _ (by rw [rNum_ok HL.out hneg.out]; exact ⟨by rw [← hm.out]; simp, hmv.out.1, hmv.out.2⟩)
          | succ p =>
            obtain rfl : z = (p : Int) := by have := hq.out; omega
            have hp0 : (0 : Int) ≤ (p : Int) := by omega
            have hpk : (p : Int) < (k : Int) := by have := hq.out; omega
            have hpn : (p : Int) < (N : Int) := by omega
            obtain ⟨x, hx⟩ : ∃ x, bs[p]? = some x := ⟨bs[p]'(by have := HL.out; omega), by rw [List.getElem?_eq_getElem]⟩
            obtain ⟨ad, rfl, hcell⟩ := hs.out.at_ (sz := 1) (fun _ => rfl) p x hx
            have hcell := hcell 0 _ rfl
            simp only [Nat.mul_one, Nat.add_zero, u8v] at hcell
            have hx0 : (0 : Int) ≤ (x.toNat : Int) := by omega
            have hx1 : (x.toNat : Int) < 256 := by have := byte_lt x; omega
            have hst := leN_take_succ bs p x hx k (by omega)
            rw [hm.out] at hst
            have hle : leN ((bs.take k).drop p) ≤ leN (bs.take k) := by
              have := leN_append ((bs.take k).take p) ((bs.take k).drop p)
              rw [List.take_append_drop] at this
              have h1 : 1 ≤ (256 : Nat) ^ ((bs.take k).take p).length := Nat.pow_pos (by omega)
              have h2 := Nat.mul_le_mul_right (leN ((bs.take k).drop p)) h1
              omega
            have hm0 : (0 : Int) ≤ (m : Int) := by omega
            have hm1 : (m : Int) * 256 + (x.toNat : Int) ≤ 9223372036854775807 := by have := hneg.out; omega
            have hm2 : (m : Int) * 256 ≤ 9223372036854775807 := by omega
            have hst : Hd (leN ((bs.take k).drop p) = x.toNat + 256 * m) := ⟨hst⟩
            have hc7 : ((p : Int) == 7) = false ∨ ((p : Int) == 7) = true ∧ decide ((127 : Int) < (x.toNat : Int)) = false := by
              by_cases h7 : p = 7
              · right
                refine ⟨by simp [h7], ?_⟩
                have : (256 : Nat) ^ 7 * (x.toNat + 256 * m) ≤ leN (bs.take k) := by
                  have h1 := leN_append ((bs.take k).take p) ((bs.take k).drop p)
                  rw [List.take_append_drop, hst.out] at h1
                  have h2 : ((bs.take k).take p).length = 7 := by rw [List.length_take, List.length_take]; have := HL.out; omega
                  rw [h2] at h1; omega
                have := hneg.out
                simp; omega
              · left; simp; omega
            clear hle hx
            generalize x.toNat = X at *
            rcases hc7 with hc7 | ⟨hc7, hc8⟩
            · go_wp2
              go_roundg p
              case measure => have := hq.out; omega
              case rel => exact ⟨p, m * 256 + X, _, ⟨⟨by have := hq.out; omega, rfl, rfl⟩⟩, rfl, by go_num, ⟨by rw [hst.out]; omega⟩, rfl⟩
            · go_wp2
              go_roundg p
              case measure => have := hq.out; omega
              case rel => exact ⟨p, m * 256 + X, _, ⟨⟨by have := hq.out; omega, rfl, rfl⟩⟩, rfl, by go_num, ⟨by rw [hst.out]; omega⟩, rfl⟩
  · have hd : (er != 0) = true := by simpa using hw
    have hw := Hd.mk hw
    go_enter Try.func93, Try.ntmps93
    go_wp2_with (first | (go_at_call 129; refine (rsized_any _ _).mono ?_; rintro e w' ⟨rfl, rfl⟩))
    go_quiet (fail)
    go_wp2
    exact hR.out _ _ (by rw [rNum_wrong hw.out]; exact ⟨rfl, HR.out.keep ((Keep.refl (fun _ => False) w).drewN _) (fun _ h => h.elim), (Keep.refl _ w).drewN _⟩)
end Go.Proofs.Ythpfkdaijiaalaa
