/- The wire's reader: numbers, texts, the end. -/
import Derived.Test.YthpfkdaijiaalaaN
namespace Go.Proofs.Ythpfkdaijiaalaa
open Go.RowKit

theorem rNum_wrong {bs : List UInt8} {er : Int} {k : Nat} (h : er ≠ 0) : rNum bs er k = (0, er, bs, er) := by simp [rNum, h]
theorem rNum_short {bs : List UInt8} {k : Nat} (h : bs.length < k) : rNum bs 0 k = (0, 10, bs, 10) := by simp [rNum, h]
theorem rNum_neg {bs : List UInt8} {k : Nat} (h : k ≤ bs.length) (h2 : 9223372036854775808 ≤ leN (bs.take k)) : rNum bs 0 k = (0, 1, bs, 1) := by
  have : ¬ bs.length < k := by omega
  simp [rNum, this, h2]
theorem rNum_ok {bs : List UInt8} {k : Nat} (h : k ≤ bs.length) (h2 : leN (bs.take k) < 9223372036854775808) : rNum bs 0 k = ((leN (bs.take k) : Int), 0, bs.drop k, 0) := by
  have : ¬ bs.length < k := by omega
  have h3 : ¬ 9223372036854775808 ≤ leN (bs.take k) := by omega
  simp [rNum, this, h3]

def RetNum (w : World) (g : Nat) (r : Int × Int × List UInt8 × Int) (e : Ending) (w' : World) : Prop :=
  e = .returned (.tuple #[.int .i64 r.1, .int .i64 r.2.1]) ∧ Rd w' g r.2.2.1 r.2.2.2 ∧ Keep (fun k => k = g) w w'

set_option maxRecDepth 100000 in
theorem rnum_any (g : Nat) (bs : List UInt8) (er : Int) (k : Nat) (hk : sizedB k = true) (w : World) (h : Rd w g bs er) :
    Calls Try.prog 126 #[.pointer (some ⟨g, 0, none⟩), .int .i64 k] w (RetNum w g (rNum bs er k)) := by
  refine hide_post fun R hR => ?_
  obtain ⟨A, N, c, hN, hs, hc0, hc1, hf0, hf1, hne, hg, hb⟩ := h.get
  have HR := Hd.mk h; clear h
  have HK : Hd (1 ≤ k ∧ k ≤ 8) := ⟨by have := hk; simp [sizedB] at this; omega⟩
  have hk0 : (0 : Int) ≤ (k : Int) := by omega
  have hkc : (k : Int) ≤ 8 := by have := HK.out; omega
  by_cases hw : er = 0
  · subst hw
    by_cases hl : N < k
    · have hd : decide ((N : Int) < (k : Int)) = true := by simpa using hl
      have hl' : (N : Int) < (k : Int) := by omega
      go_enter Try.func126, Try.ntmps126
      go_wp2_with (first | (go_at_call 123; refine (sized_any _ _).mono ?_; rintro e w' ⟨rfl, rfl⟩) | (go_at_call 131; refine (rfail_any g bs 0 _ w HR.out).mono ?_; rintro e w' ⟨rfl, hr1, hk1⟩; have hr1 := Hd.mk hr1; have hk1 := Hd.mk hk1))
      exact hR.out _ _ (by rw [rNum_short (by have := hN.out; omega)]; exact ⟨rfl, hr1.out, hk1.out⟩)
    · have hd : decide ((N : Int) < (k : Int)) = false := by simpa using hl
      have hl' : (k : Int) ≤ (N : Int) := by omega
      obtain ⟨ht, hcut⟩ := cut_to Try.E8 hs.out k (by omega)
      obtain ⟨A1, N1, c1, hN1, hs1, ha1, hcut2⟩ := cut_from Try.E8 hs.out k (by omega)
      have HL := Hd.mk (leN_lt (bs.take k))
      by_cases hneg : 9223372036854775808 ≤ leN (bs.take k)
      · have hv : wrap64 (leN (bs.take k)) < 0 := by
          have := HL.out; have h8 := HK.out
          rw [List.length_take] at this
          have h9 : (256 : Nat) ^ min k bs.length ≤ 256 ^ 8 := Nat.pow_le_pow_right (by omega) (by omega)
          unfold wrap64; omega
        have hneg := Hd.mk hneg
        generalize hV : wrap64 (leN (bs.take k)) = V at hv
        have hV := Hd.mk hV
        go_enter Try.func126, Try.ntmps126
        go_wp2_with (first | (go_at_call 123; refine (sized_any _ _).mono ?_; rintro e w' ⟨rfl, rfl⟩) | (go_at_call 130; refine (number_any _ _ _ _ (by have := HK.out; omega) _ ht.out).mono ?_; rintro e w1 ⟨rfl, hk2⟩; have hk2 := Hd.mk hk2; rw [hV.out]))
        refine (rfail_any g bs 0 _ _ (HR.out.keep hk2.out (fun _ h => h.elim))).mono ?_
        rintro e w2 ⟨rfl, hr1, hk1⟩
        have hr1 := Hd.mk hr1
        have hk1 := Hd.mk hk1
        go_wp2
        exact hR.out _ _ (by rw [rNum_neg (by have := hN.out; omega) hneg.out]; exact ⟨rfl, hr1.out, (Keep.of_ext hk2.out).trans hk1.out (fun _ _ h => h)⟩)
      · have hneg : Hd (leN (bs.take k) < 9223372036854775808) := ⟨by omega⟩
        have hV : Hd (wrap64 (leN (bs.take k)) = ((leN (bs.take k) : Nat) : Int)) := ⟨by have := hneg.out; unfold wrap64; omega⟩
        generalize hM : leN (bs.take k) = M at hV
        have hM := Hd.mk hM
        have hM0 : (0 : Int) ≤ (M : Int) := by omega
        go_enter Try.func126, Try.ntmps126
        go_wp2_with (first | (go_at_call 123; refine (sized_any _ _).mono ?_; rintro e w' ⟨rfl, rfl⟩))
        refine (number_any _ _ _ _ (by have := HK.out; omega) _ ht.out).mono ?_
        rintro e w1 ⟨rfl, hk2⟩
        rw [hM.out, hV.out]
        have hk2 := Hd.mk hk2
        have hb1 := Hd.mk (hk2.out.blk hb.out id)
        have hc0 := hk2.out.cell hc0 id
        have hf0 : w1.frozen? ⟨g, 0, none⟩ = false := by simp [World.frozen?, hb1.out]
        have hmv := Hd.mk (RdT.move (A' := A1) (N' := N1) (c' := c1) (bs' := bs.drop k) hb1.out (hs1.out.ext hk2.out) (fun h0 ad e => by
          obtain ⟨a0, e1, e2⟩ := ha1.out ad e
          rw [e2]; exact hne.out (fun e3 => h0 (by rw [e3]; simp)) a0 e1))
        go_wp2
        exact hR.out _ _ (by rw [rNum_ok (by have := hN.out; omega) (by have := hneg.out; exact this), hM.out]; exact ⟨rfl, hmv.out.1, (Keep.of_ext hk2.out).trans hmv.out.2 (fun _ _ h => h)⟩)
  · have hd : (er != 0) = true := by simpa using hw
    have hw := Hd.mk hw
    go_enter Try.func126, Try.ntmps126
    go_wp2_with (first | (go_at_call 123; refine (sized_any _ _).mono ?_; rintro e w' ⟨rfl, rfl⟩))
    go_quiet (fail)
    go_wp2
    exact hR.out _ _ (by rw [rNum_wrong hw.out]; exact ⟨rfl, HR.out.keep ((Keep.refl (fun _ => False) w).drewN _) (fun _ h => h.elim), (Keep.refl _ w).drewN _⟩)

theorem cut_mid {P : Program} {α : Type} {enc : α → List Value} {t e : TypeId} {sz bytes : Nat} (E : Elt P t e enc sz bytes) {w : World} {A : Option Addr} {n c : Nat} {xs : List α} (h : SlAt enc w A n c xs) (m k : Nat) (hm : m + k ≤ n) :
    ∃ A1 c1, Hd (SlAt enc w A1 k c1 ((xs.drop m).take k)) ∧ Hd (∀ a1, A1 = some a1 → ∃ a0, A = some a0 ∧ a1.block = a0.block) ∧ (∀ w', (Instr.slice t (.slice A n c) (some (.int .i64 (m : Int))) (some (.int .i64 ((m : Int) + (k : Int)))) none).run P w' = .ok (.slice A1 k c1) w') := by
  obtain ⟨i, z, hi, _, hs, _, _⟩ := E.info
  refine ⟨if c = m then A else A.map (·.add (m * sz)), c - m, ⟨(h.drop E.len m (by omega)).take ⟨sz, E.len⟩ k (by omega)⟩, ⟨fun a1 h1 => ?_⟩, fun w' => ?_⟩
  · split at h1
    · exact ⟨a1, h1, rfl⟩
    · cases A with
      | none => cases h1
      | some a0 => simp at h1; subst h1; exact ⟨a0, rfl, by unfold Addr.add; split <;> rfl⟩
  · have ht : P.underlying t = some (.slice (P.elem t)) := by simp [E.ht, Program.elem]
    have he : P.elem t = e := by simp [E.ht, Program.elem]
    rw [run_slice_lh (P := P) w' t A n c ht .i64 .i64 m (m + k) (by omega) (by omega) (by have := h.cap; omega), he]
    have hsz : (sizeOf e).run P w' = .ok sz w' := by simp [sizeOf, typeInfo, hi, hs]
    have e1 : ((m : Int) + (k : Int)).toNat - m = k := by omega
    rw [hsz]; simp [Result.andThen, sliced, e1]

def bsStr (xs : List UInt8) : ByteArray := ⟨xs.toArray⟩
theorem bsStr_toList (xs : List UInt8) : (bsStr xs).toList = xs := by rw [ByteArray.toList_eq]; rfl
theorem bsStr_size (xs : List UInt8) : (bsStr xs).size = xs.length := by rw [size_list, bsStr_toList]
theorem bsStr_of (s : ByteArray) : bsStr s.toList = s := by rw [ByteArray.toList_eq]; cases s; rfl
theorem push_bytes : ∀ (ns : List UInt8) (s : ByteArray), ns.foldl (fun r n => r.push n) s = ⟨s.data ++ ns.toArray⟩
  | [], s => by simp
  | n :: ns, s => by
    rw [List.foldl_cons, push_bytes ns]
    simp [ByteArray.push]
/-- 'string(b)'. -/
theorem run_conv8 {P : Program} {src e dst : TypeId} (hs : P.underlying src = some (.slice e)) (he : P.underlying e = some (.int .u8)) (hd : P.underlying dst = some .string) {w : World} {A : Option Addr} {n c : Nat} {xs : List UInt8} (h : SlAt enc8 w A n c xs) :
    (convert src dst (.slice A n c)).run P w = .ok (.string (bsStr xs)) w := by
  cases A with
  | none =>
    have : xs = [] := List.eq_nil_of_length_eq_zero (by have := h.nil rfl; have := h.cap; have := h.len; omega)
    subst this
    exact run_convert_bytes_nil w src e hs he n c dst hd
  | some ad =>
    have hl : (loadCells ad n).run P w = .ok ((xs.map fun b : UInt8 => (b.toNat : Int)).map (Value.int .u8)).toArray w := by
      have e0 : (xs.map fun b : UInt8 => (b.toNat : Int)).map (Value.int .u8) = flat enc8 xs := by
        simp only [flat]; clear h; induction xs with
        | nil => rfl
        | cons x xs ih => simp [ih, enc8, u8v]
      rw [e0]
      have := run_loadCells_list (P := P) w ad (flat enc8 xs) (fun j v hj => by
        by_cases hn : flat enc8 xs = []
        · rw [hn] at hj; simp at hj
        · obtain ⟨ad', e1, hc⟩ := h.src hn
          cases e1; exact hc j v hj)
      rwa [flat_len (enc := enc8) (sz := 1) (fun _ => rfl), Nat.mul_one, h.len] at this
    have hlen : (xs.map fun b : UInt8 => (b.toNat : Int)).length = n := by simp [h.len]
    rw [run_convert_bytes_string w src dst e _ n c hs he hd, run_bytesToString w ad n c _ hl, foldl_push_bytes]
    congr 2
    simp only [bsStr, ByteArray.empty, ByteArray.emptyWithCapacity, List.map_map]
    congr 1
    apply Array.ext'
    simp only [Array.toList_append]
    exact (List.nil_append _).trans ((List.map_congr_left (fun b _ => by simp)).trans (List.map_id _))

theorem rText_wrong {bs : List UInt8} {er : Int} {most : Nat} (h : er ≠ 0) : rText bs er most = ([], er, bs, er) := by simp [rText, h]
theorem rText_short {bs : List UInt8} {most : Nat} (h : bs.length < 2 ∨ bs.length - 2 < leN (bs.take 2)) : rText bs 0 most = ([], 10, bs, 10) := by simp [rText, h]
theorem rText_long {bs : List UInt8} {most : Nat} (h : 2 ≤ bs.length) (h2 : 2 + leN (bs.take 2) ≤ bs.length) (h3 : most < leN (bs.take 2)) : rText bs 0 most = ([], 2, bs, 2) := by
  have : ¬ (bs.length < 2 ∨ bs.length - 2 < leN (bs.take 2)) := by omega
  simp [rText, this, h3]
theorem rText_ok {bs : List UInt8} {most : Nat} (h : 2 ≤ bs.length) (h2 : 2 + leN (bs.take 2) ≤ bs.length) (h3 : leN (bs.take 2) ≤ most) : rText bs 0 most = ((bs.drop 2).take (leN (bs.take 2)), 0, bs.drop (2 + leN (bs.take 2)), 0) := by
  have : ¬ (bs.length < 2 ∨ bs.length - 2 < leN (bs.take 2)) := by omega
  have h4 : ¬ most < leN (bs.take 2) := by omega
  simp [rText, this, h4]

def RetText (w : World) (g : Nat) (r : List UInt8 × Int × List UInt8 × Int) (e : Ending) (w' : World) : Prop :=
  e = .returned (.tuple #[.string (bsStr r.1), .int .i64 r.2.1]) ∧ Rd w' g r.2.2.1 r.2.2.2 ∧ Keep (fun k => k = g) w w'

theorem number_get {A : Option Addr} {N c : Nat} {xs : List UInt8} (h8 : N ≤ 7) {w : World} (hs : SlAt enc8 w A N c xs) (M : Nat) (hM : Hd (leN xs = M)) :
    Calls Try.prog 130 #[.slice A N c] w fun e w' => e = .returned (.int .i64 M) ∧ Ext w w' := by
  refine (number_any A N c xs (by omega) w hs).mono ?_
  rintro e w' ⟨rfl, hk⟩
  refine ⟨?_, hk⟩
  have h1 := leN_lt xs
  have h2 : (256 : Nat) ^ xs.length ≤ 256 ^ 7 := Nat.pow_le_pow_right (by omega) (by rw [hs.len]; exact h8)
  have : wrap64 (leN xs) = M := by rw [← hM.out]; unfold wrap64; omega
  rw [this]

theorem rend_any (g : Nat) (bs : List UInt8) (er : Int) (w : World) (h : Rd w g bs er) (hmb : bs.length ≤ 140737488355328) :
    Calls Try.prog 133 #[.pointer (some ⟨g, 0, none⟩)] w fun e w' => e = .returned (.int .i64 (rEnd bs er)) ∧ w = w' := by
  refine hide_post fun R hR => ?_
  obtain ⟨A, N, c, hN, hs, hc0, hc1, hf0, hf1, hne, hg, hb⟩ := h.get
  clear h
  by_cases hw : er = 0
  · subst hw
    have hH : Hd (bs.length ≤ 140737488355328) := ⟨hmb⟩
    clear hmb
    by_cases hl : (0 : Int) < (N : Int)
    · have h0 : bs ≠ [] := fun e => by have := hN.out; rw [e] at this; simp at this; omega
      have h0 := Hd.mk h0
      go_enter Try.func133, Try.ntmps133
      go_wp2
      exact hR.out _ _ ⟨by simp [rEnd, h0.out], rfl⟩
    · have h0 : bs = [] := List.eq_nil_of_length_eq_zero (by have := hN.out; omega)
      have h0 := Hd.mk h0
      go_enter Try.func133, Try.ntmps133
      go_wp2
      exact hR.out _ _ ⟨by simp [rEnd, h0.out], rfl⟩
  · have hd : (er != 0) = true := by simpa using hw
    have hw := Hd.mk hw
    go_enter Try.func133, Try.ntmps133
    go_wp2
    exact hR.out _ _ ⟨by simp [rEnd, hw.out], rfl⟩
end Go.Proofs.Ythpfkdaijiaalaa
