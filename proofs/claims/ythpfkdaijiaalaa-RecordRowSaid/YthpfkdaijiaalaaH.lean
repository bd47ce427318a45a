/- The reference's reader of texts, its end; the reference's sums. -/
import Derived.Test.YthpfkdaijiaalaaG
namespace Go.Proofs.Ythpfkdaijiaalaa
open Go.RowKit

set_option maxRecDepth 100000 in
theorem refrtext_any (g : Nat) (bs : List UInt8) (er : Int) (most : Nat) (w : World) (h : Rr w g bs er) (hmb : bs.length ≤ 140737488355328) :
    Calls Try.prog 94 #[.pointer (some ⟨g, 0, none⟩), .int .i64 most] w (RetTextR w g (rText bs er most)) := by
  refine hide_post fun R hR => ?_
  obtain ⟨A, N, c, hN, hs, hc0, hc1, hf0, hf1, hne, hg, hb⟩ := h.get
  have HR := Hd.mk h; clear h
  have hm0 : decide ((most : Int) < 0) = false := by simp
  have hNb : (N : Int) ≤ 140737488355328 := by have := hN.out; omega
  clear hmb
  have fail : ∀ e0 : Int, Hd (Rr (w.setCell ⟨g, 1, none⟩ (.int .i64 e0)) g bs e0 ∧ Keep (fun k => k = g) w (w.setCell ⟨g, 1, none⟩ (.int .i64 e0))) := fun e0 => ⟨HR.out.fail e0⟩
  by_cases hw : er = 0
  · subst hw
    by_cases hl : N < 2
    · have hd : decide ((N : Int) < 2) = true := by simp; omega
      have H := fail 10
      have hc2 := rerr_cells (e0 := 10) hb.out
      clear fail
      have hl := Hd.mk hl
      go_enter Try.func94, Try.ntmps94
      go_wp2
      go_quiet (fail)
      go_wp2
      exact hR.out _ _ (by rw [rText_short (.inl (by have := hN.out; have := hl.out; omega))]; exact ⟨by simp [bsStr], H.out.1.keep ((Keep.refl (fun _ => False) _).drewN _) (fun _ h => h.elim), H.out.2.drewN _⟩)
    · have hd : decide ((N : Int) < 2) = false := by simp; omega
      have hNb2 : (2 : Int) ≤ (N : Int) := by omega
      have HL : Hd (2 ≤ bs.length) := ⟨by have := hN.out; omega⟩
      obtain ⟨x, hx⟩ : ∃ x, bs[0]? = some x := ⟨bs[0]'(by have := HL.out; omega), by rw [List.getElem?_eq_getElem]⟩
      obtain ⟨y, hy⟩ : ∃ y, bs[1]? = some y := ⟨bs[1]'(by have := HL.out; omega), by rw [List.getElem?_eq_getElem]⟩
      obtain ⟨ad, rfl, hcx⟩ := hs.out.at_ (sz := 1) (fun _ => rfl) 0 x hx
      obtain ⟨ad', e', hcy⟩ := hs.out.at_ (sz := 1) (fun _ => rfl) 1 y hy
      cases e'
      have hcx : w.cell? (ad.add 0) = some (.int .u8 x.toNat) := hcx 0 _ rfl
      have hcx' : w.cell? ad = some (.int .u8 x.toNat) := hcx
      have hcy : w.cell? (ad.add 1) = some (.int .u8 y.toNat) := hcy 0 _ rfl
      have hcy' : w.cell? ⟨ad.block, ad.off + 1, none⟩ = some (.int .u8 y.toNat) := hcy
      have hx1 : (x.toNat : Int) ≤ 255 := by have := byte_lt x; omega
      have hy1 : (y.toNat : Int) ≤ 255 := by have := byte_lt y; omega
      have hx0 : (0 : Int) ≤ (x.toNat : Int) := by omega
      have hy0 : (0 : Int) ≤ (y.toNat : Int) := by omega
      have hM : leN (bs.take 2) = x.toNat + 256 * y.toNat := by
        have e1 := leN_take_succ bs 0 x hx 2 (by omega)
        have e2 := leN_take_succ bs 1 y hy 2 (by omega)
        have hz : leN ((bs.take 2).drop (1 + 1)) = 0 := by rw [List.drop_eq_nil_of_le (by rw [List.length_take]; omega)]; rfl
        rw [hz] at e2
        simp only [Nat.zero_add, List.drop_zero] at e1
        omega
      have hM := Hd.mk hM
      have hw1 : IntKind.i64.wrap (x.toNat : Int) = x.toNat := by rw [IntKind.wrap_i64]; omega
      have hw2 : IntKind.i64.wrap (y.toNat : Int) = y.toNat := by rw [IntKind.wrap_i64]; omega
      have hw3 : IntKind.i64.wrap (256 * (y.toNat : Int)) = 256 * y.toNat := by rw [IntKind.wrap_i64]; omega
      have hw4 : IntKind.i64.wrap ((x.toNat : Int) + 256 * (y.toNat : Int)) = x.toNat + 256 * y.toNat := by rw [IntKind.wrap_i64]; omega
      go_enter Try.func94, Try.ntmps94
      go_wp2
      go_quiet (fail)
      obtain ⟨M, hM2⟩ : ∃ M, Hd (leN (bs.take 2) = M) := ⟨_, ⟨rfl⟩⟩
      have eM : (x.toNat : Int) + 256 * (y.toNat : Int) = (M : Int) := by have h1 := hM.out; have h2 := hM2.out; omega
      rw [eM]
      have hM0 : (0 : Int) ≤ (M : Int) := by omega
      have hMb : (M : Int) ≤ 140737488351232 := by omega
      clear eM hw1 hw2 hw3 hw4 hx0 hx1 hy0 hy1 hcx hcx' hcy hcy' hM hx hy
      have hb1 := Hd.mk (((Keep.refl (fun _ => False) w).drewN nq).blk hb.out id)
      have hkq := Hd.mk ((Keep.refl (fun _ => False) w).drewN nq)
      by_cases hlt : (N : Int) < 2 + (M : Int)
      · have H := fail 10
        have hc2 := rerr_cells (e0 := 10) hb.out
        clear fail
        have hlt' := Hd.mk hlt
        go_wp2
        go_quiet (fail)
        go_wp2
        exact hR.out _ _ (by rw [rText_short (.inr (by have := hN.out; have := hlt'.out; have := hM2.out; have := HL.out; omega))]; exact ⟨by simp [bsStr], H.out.1.keep (((Keep.refl (fun _ => False) _).drewN _).drewN _) (fun _ h => h.elim), (H.out.2.drewN _).drewN _⟩)
      · have hlt' : 2 + (M : Int) ≤ (N : Int) := by omega
        clear hlt
        by_cases hmo : (most : Int) < (M : Int)
        · have H := fail 2
          have hc2 := rerr_cells (e0 := 2) hb.out
          clear fail
          have hmo' := Hd.mk hmo
          go_wp2
          go_quiet (fail)
          go_wp2
          exact hR.out _ _ (by rw [rText_long HL.out (by have := hN.out; have := hM2.out; omega) (by have := hM2.out; have := hmo'.out; omega)]; exact ⟨by simp [bsStr], H.out.1.keep (((Keep.refl (fun _ => False) _).drewN _).drewN _) (fun _ h => h.elim), (H.out.2.drewN _).drewN _⟩)
        · have hmo' : (M : Int) ≤ (most : Int) := by omega
          clear hmo fail
          obtain ⟨A1, c1, hs3, ha3, hcm⟩ := cut_mid Try.E8 hs.out 2 M (by omega)
          have hcm : ∀ w', (Instr.slice 31 (.slice (some ad) N c) (some (.int .i64 2)) (some (.int .i64 (2 + (M : Int)))) none).run Try.prog w' = .ok (.slice A1 M c1) w' := hcm
          obtain ⟨A4, N4, c4, hN4, hs4, ha4, hcut4⟩ := cut_from Try.E8 hs.out (2 + M) (by omega)
          simp only [Int.natCast_add, Int.cast_ofNat_Int] at hcut4
          have hconv := run_conv8 (P := Try.prog) (dst := 9) Try.underlying31 Try.underlying5 Try.underlying9 (hs3.out.ext hkq.out)
          have hmv := Hd.mk (RdT.move (A' := A4) (N' := N4) (c' := c4) (bs' := bs.drop (2 + M)) hb1.out (hs4.out.ext hkq.out) (fun h0 ad e => by
            obtain ⟨a0, e1, e2⟩ := ha4.out ad e
            rw [e2]; exact hne.out (fun e3 => h0 (by rw [e3]; simp)) a0 e1))
          obtain ⟨S, hS⟩ : ∃ S, Hd (bsStr ((bs.drop 2).take M) = S) := ⟨_, ⟨rfl⟩⟩
          rw [hS.out] at hconv
          go_wp2
          exact hR.out _ _ (by rw [rText_ok HL.out (by have := hN.out; have := hM2.out; omega) (by have := hM2.out; omega), hM2.out]; exact ⟨by rw [← hS.out]; rfl, hmv.out.1, (Keep.of_ext hkq.out).trans hmv.out.2 (fun _ _ h => h)⟩)
  · have hd : (er != 0) = true := by simpa using hw
    have hw := Hd.mk hw
    clear fail
    go_enter Try.func94, Try.ntmps94
    go_wp2
    go_quiet (fail)
    go_wp2
    exact hR.out _ _ (by rw [rText_wrong hw.out]; exact ⟨by simp [bsStr], HR.out.keep ((Keep.refl (fun _ => False) w).drewN _) (fun _ h => h.elim), (Keep.refl _ w).drewN _⟩)

theorem refrend_any (g : Nat) (bs : List UInt8) (er : Int) (w : World) (h : Rr w g bs er) (hmb : bs.length ≤ 140737488355328) :
    Calls Try.prog 104 #[.pointer (some ⟨g, 0, none⟩)] w fun e w' => e = .returned (.int .i64 (rEnd bs er)) ∧ w = w' := by
  refine hide_post fun R hR => ?_
  obtain ⟨A, N, c, hN, hs, hc0, hc1, hf0, hf1, hne, hg, hb⟩ := h.get
  clear h
  by_cases hw : er = 0
  · subst hw
    have hH : Hd (bs.length ≤ 140737488355328) := ⟨hmb⟩
    clear hmb
    by_cases hl : (0 : Int) < (N : Int)
    · have h0 : bs ≠ [] := fun e => by have := hN.out; rw [e] at this; simp at this; omega
      have h0 := Hd.mk h0
      go_enter Try.func104, Try.ntmps104
      go_wp2
      exact hR.out _ _ ⟨by simp [rEnd, h0.out], rfl⟩
    · have h0 : bs = [] := List.eq_nil_of_length_eq_zero (by have := hN.out; omega)
      have h0 := Hd.mk h0
      go_enter Try.func104, Try.ntmps104
      go_wp2
      exact hR.out _ _ ⟨by simp [rEnd, h0.out], rfl⟩
  · have hd : (er != 0) = true := by simpa using hw
    have hw := Hd.mk hw
    go_enter Try.func104, Try.ntmps104
    go_wp2
    exact hR.out _ _ ⟨by simp [rEnd, hw.out], rfl⟩
end Go.Proofs.Ythpfkdaijiaalaa
