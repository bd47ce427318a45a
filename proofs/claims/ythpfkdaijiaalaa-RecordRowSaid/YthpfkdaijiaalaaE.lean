/- The wire's reader: texts. -/
import Derived.Test.YthpfkdaijiaalaaD
namespace Go.Proofs.Ythpfkdaijiaalaa
open Go.RowKit

set_option maxRecDepth 100000 in
theorem rtext_any (g : Nat) (bs : List UInt8) (er : Int) (most : Nat) (w : World) (h : Rd w g bs er) (hmb : bs.length ≤ 140737488355328) :
    Calls Try.prog 100 #[.pointer (some ⟨g, 0, none⟩), .int .i64 most] w (RetText w g (rText bs er most)) := by
  refine hide_post fun R hR => ?_
  obtain ⟨A, N, c, hN, hs, hc0, hc1, hf0, hf1, hne, hg, hb⟩ := h.get
  have HR := Hd.mk h; clear h
  have hm0 : decide ((most : Int) < 0) = false := by simp
  have hNb : (N : Int) ≤ 140737488355328 := by have := hN.out; omega
  clear hmb
  by_cases hw : er = 0
  · subst hw
    by_cases hl : N < 2
    · have hd : decide ((N : Int) < 2) = true := by simp; omega
      go_enter Try.func100, Try.ntmps100
      go_wp2_with fail
      go_quiet (fail)
      go_wp2_with fail
      refine (rfail_any g bs 0 _ _ (HR.out.keep ((Keep.refl (fun _ => False) w).drewN nq) (fun _ h => h.elim))).mono ?_
      rintro e w' ⟨rfl, hr1, hk1⟩
      have hr1 := Hd.mk hr1
      have hk1 := Hd.mk hk1
      go_wp2
      exact hR.out _ _ (by rw [rText_short (.inl (by have := hN.out; omega))]; exact ⟨by simp [bsStr], hr1.out, ((Keep.refl (fun k => k = g) w).drewN nq).trans hk1.out (fun _ _ h => h)⟩)
    · have hd : decide ((N : Int) < 2) = false := by simp; omega
      have hNb2 : (2 : Int) ≤ (N : Int) := by omega
      obtain ⟨ht, hcut⟩ := cut_to Try.E8 hs.out 2 (by omega)
      obtain ⟨M, hM⟩ : ∃ M, Hd (leN (bs.take 2) = M) := ⟨_, ⟨rfl⟩⟩
      have hM0 : (0 : Int) ≤ (M : Int) := by omega
      have hcut : ∀ w', (Instr.slice 31 (.slice A N c) none (some (.int .i64 2)) none).run Try.prog w' = .ok (.slice A 2 c) w' := hcut
      have hwr : IntKind.i64.wrap ((N : Int) - 2) = (N : Int) - 2 := by rw [IntKind.wrap_i64]; omega
      go_enter Try.func100, Try.ntmps100
      go_wp2_with fail
      go_region_held3 (fun w' => w'.cell? ⟨g, 0, none⟩ = some (.slice A N c)) (first | exact hc0 | exact hcn)
        (first | (go_at_call 130; refine (number_get (by omega) (ht.out.ext ((ext_refl w).drew)) M hM).mono ?_; rintro e w1 ⟨rfl, hk1⟩; have hcn : w1.cell? ⟨g, 0, none⟩ = some (.slice A N c) := hk1.cell hc0 id; have hk1 := Hd.mk hk1))
      clear hwr
      have hk1 : Hd (Ext w w1) := ⟨((ext_refl w).drew).ext hk1.out⟩
      have hcn := hk1.out.cell hc0 id
      have hr1 := Hd.mk (HR.out.keep hk1.out (fun _ h => h.elim))
      have hs1 := Hd.mk (hs.out.ext hk1.out)
      have ht1 := Hd.mk (ht.out.ext hk1.out)
      have hb1 := Hd.mk (hk1.out.blk hb.out id)
      by_cases hlt : (N : Int) - 2 < (M : Int)
      · have hd2 : decide ((N : Int) - 2 < (M : Int)) = true := by simpa using hlt
        go_wp2_with fail
        refine (rfail_any g bs 0 _ _ hr1.out).mono ?_
        rintro e w' ⟨rfl, hr2, hk2⟩
        have hr2 := Hd.mk hr2
        have hk2 := Hd.mk hk2
        go_wp2
        exact hR.out _ _ (by rw [rText_short (.inr (by have := hN.out; have := hM.out; omega))]; exact ⟨by simp [bsStr], hr2.out, (Keep.of_ext hk1.out).trans hk2.out (fun _ _ h => h)⟩)
      · have hd2 : decide ((N : Int) - 2 < (M : Int)) = false := by simpa using hlt
        have hlt' : (M : Int) ≤ (N : Int) - 2 := by omega
        clear hlt
        go_wp2_with fail
        refine (number_get (by omega) ht1.out M hM).mono ?_
        rintro e w2 ⟨rfl, hk2⟩
        have hk2 := Hd.mk (hk1.out.ext hk2)
        have hcn := hk2.out.cell hc0 id
        have hr2 := Hd.mk (HR.out.keep hk2.out (fun _ h => h.elim))
        have hs2 := Hd.mk (hs.out.ext hk2.out)
        have hb2 := Hd.mk (hk2.out.blk hb.out id)
        by_cases hmo : (most : Int) < (M : Int)
        · have hd3 : decide ((most : Int) < (M : Int)) = true := by simpa using hmo
          go_wp2_with fail
          refine (rfail_any g bs 0 _ _ hr2.out).mono ?_
          rintro e w' ⟨rfl, hr3, hk3⟩
          have hr3 := Hd.mk hr3
          have hk3 := Hd.mk hk3
          go_wp2
          exact hR.out _ _ (by rw [rText_long (by have := hN.out; omega) (by have := hN.out; have := hM.out; omega) (by have := hM.out; omega)]; exact ⟨by simp [bsStr], hr3.out, (Keep.of_ext hk2.out).trans hk3.out (fun _ _ h => h)⟩)
        · have hd3 : decide ((most : Int) < (M : Int)) = false := by simpa using hmo
          have hmo' : (M : Int) ≤ (most : Int) := by omega
          clear hmo
          obtain ⟨A1, c1, hs3, ha3, hcm⟩ := cut_mid Try.E8 hs2.out 2 M (by omega)
          have hcm : ∀ w', (Instr.slice 31 (.slice A N c) (some (.int .i64 2)) (some (.int .i64 (2 + (M : Int)))) none).run Try.prog w' = .ok (.slice A1 M c1) w' := hcm
          obtain ⟨A4, N4, c4, hN4, hs4, ha4, hcut4⟩ := cut_from Try.E8 hs2.out (2 + M) (by omega)
          simp only [Int.natCast_add, Int.cast_ofNat_Int] at hcut4
          have hconv := run_conv8 (P := Try.prog) (dst := 9) Try.underlying31 Try.underlying5 Try.underlying9 hs3.out
          have hf2 : w2.frozen? ⟨g, 0, none⟩ = false := by simp [World.frozen?, hb2.out]
          have hmv := Hd.mk (RdT.move (A' := A4) (N' := N4) (c' := c4) (bs' := bs.drop (2 + M)) hb2.out hs4.out (fun h0 ad e => by
            obtain ⟨a0, e1, e2⟩ := ha4.out ad e
            rw [e2]; exact hne.out (fun e3 => h0 (by rw [e3]; simp)) a0 e1))
          obtain ⟨S, hS⟩ : ∃ S, Hd (bsStr ((bs.drop 2).take M) = S) := ⟨_, ⟨rfl⟩⟩
          rw [hS.out] at hconv
          go_wp2
          exact hR.out _ _ (by rw [rText_ok (by have := hN.out; omega) (by have := hN.out; have := hM.out; omega) (by have := hM.out; omega), hM.out]; exact ⟨by rw [← hS.out]; rfl, hmv.out.1, (Keep.of_ext hk2.out).trans hmv.out.2 (fun _ _ h => h)⟩)
  · have hd : (er != 0) = true := by simpa using hw
    have hw := Hd.mk hw
    go_enter Try.func100, Try.ntmps100
    go_wp2
    go_quiet (fail)
    go_wp2
    exact hR.out _ _ (by rw [rText_wrong hw.out]; exact ⟨rfl, HR.out.keep ((Keep.refl (fun _ => False) w).drewN _) (fun _ h => h.elim), (Keep.refl _ w).drewN _⟩)

end Go.Proofs.Ythpfkdaijiaalaa
