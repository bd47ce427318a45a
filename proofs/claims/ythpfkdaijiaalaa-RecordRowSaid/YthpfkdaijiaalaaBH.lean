/- A frame is read: by the reference. -/
import Derived.Test.YthpfkdaijiaalaaBG
namespace Go.Proofs.Ythpfkdaijiaalaa
open Go.RowKit

/-- Where the reference's reader stands: the result gr, the reader g, the record go. -/
structure Rq (w V : World) (gr g go : Nat) (s : RSt) : Prop where
  keep : Ext w V
  rd : Rr V g s.1 s.2
  small : s.1.length ≤ 140737488355328
  res : V.heap[gr]? = some (.cells zrs 46 (0, 0))
  out : V.heap[go]? = some (.cells zrs 46 (0, 0))
  ltr : w.heap.size ≤ gr
  ltg : gr < g
  lto : g < go
theorem Rq.step {w V V' : World} {gr g go : Nat} {s s' : RSt} (h : Rq w V gr g go s) (hk : Keep (fun k => k = g) V V') (hr : Rr V' g s'.1 s'.2) (hl : s'.1.length ≤ s.1.length) : Rq w V' gr g go s' := by
  have h1 := h.ltr; have h2 := h.ltg; have h3 := h.lto
  exact ⟨h.keep.trans hk (fun k hk' e => by omega), hr, Nat.le_trans hl h.small, hk.blk h.res (by omega), hk.blk h.out (by omega), h1, h2, h3⟩
theorem sl_block {w : World} {A : Option Addr} {n c : Nat} {bs : List UInt8} (hs : SlAt enc8 w A n c bs) : bs ≠ [] → ∀ ad, A = some ad → ad.block < w.heap.size := by
  intro h0 ad hA
  obtain ⟨ad', h1, h2⟩ := hs.src (fun h => h0 (by cases bs with | nil => rfl | cons x xs => simp [flat, enc8] at h))
  rw [hA] at h1; cases h1
  have hp : 0 < bs.length := Nat.pos_of_ne_zero (fun h => h0 (List.eq_nil_of_length_eq_zero h))
  obtain ⟨x, hx⟩ : ∃ x, (flat enc8 bs)[0]? = some x := ⟨_, List.getElem?_eq_getElem (by rw [flat_len (sz := 1) (fun _ => rfl)]; omega)⟩
  have := World.block_lt_of_cell? w _ (h2 0 x hx)
  rwa [show ad.add 0 = ad by cases ad; unfold Addr.add; simp] at this
theorem Rq.first {w W : World} {gr : Nat} {A : Option Addr} {m c : Nat} {bs : List UInt8} (hE : Ext w W) (hres : W.heap[gr]? = some (.cells zrs 46 (0, 0))) (hgr : w.heap.size ≤ gr) (hs : SlAt enc8 w A m c bs) (hm : m ≤ 140737488355328) {V : World}
    (e : (W.alloc (.cells #[.slice A m c, .int .i64 0] 140)).alloc (.cells zrs 46) = V) : Rq w V gr W.heap.size (W.heap.size + 1) (bs, 0) := by
  have k2 := (ext_refl W).alloc (.cells #[.slice A m c, .int .i64 0] 140)
  have k3 := (ext_refl (W.alloc (.cells #[.slice A m c, .int .i64 0] 140))).alloc (.cells zrs 46)
  have r2 := heap_alloc_new W (.cells #[.slice A m c, .int .i64 0] 140)
  have r3 := heap_alloc_new (W.alloc (.cells #[.slice A m c, .int .i64 0] 140)) (.cells zrs 46)
  have e2 : (W.alloc (.cells #[.slice A m c, .int .i64 0] 140)).heap.size = W.heap.size + 1 := by simp
  rw [e2] at r3
  rw [e] at r3 k3
  have hl : bs.length = m := hs.len
  have hlt := (Array.getElem?_eq_some_iff.1 hres).1
  refine ⟨(hE.ext k2).ext k3, ⟨A, m, c, k3.blk r2 id, hs.ext ((hE.ext k2).ext k3), fun h0 ad hA => ?_⟩, by simp only; omega, (k2.ext k3).blk hres id, r3, hgr, hlt, by omega⟩
  have := sl_block hs h0 ad hA
  have := hE.size
  omega

set_option maxRecDepth 100000 in
set_option maxHeartbeats 8000000 in
theorem refrdecode_any (A : Option Addr) (n c : Nat) (b : List UInt8) (w : World) (hs : SlAt enc8 w A n c b) (hn : n ≤ 140737488355328) :
    Calls Try.prog 41 #[.slice A n c] w (RetDR w b) := by
  refine hide_post fun R hR => ?_
  have HS := Hd.mk hs; clear hs
  have HN := Hd.mk hn; clear hn
  have hlen := Hd.mk HS.out.len
  have hnb : (n : Int) ≤ 140737488355328 := by have := HN.out; omega
  have hfl : Hd (fLen b = leN (b.take 2) + 6) := ⟨rfl⟩
  by_cases h1 : n < 2
  · have hdec := Hd.mk (decRec_short (b := b) (.inl (by have := hlen.out; omega)))
    have h1' : decide ((n : Int) < 2) = true := by simp; omega
    have h1 := Hd.mk h1
    go_enter Try.func41, Try.ntmps41
    go_wp2_with fail
    obtain ⟨W0, hW0⟩ : ∃ W0, w.alloc (Obj.cells zrs 46) = W0 := ⟨_, rfl⟩
    have hk0 : Hd (Ext w W0) := ⟨by rw [← hW0]; exact (ext_refl w).alloc _⟩
    have hb0 : Hd (W0.heap[w.heap.size]? = some (.cells zrs 46 (0, 0))) := ⟨by rw [← hW0]; exact heap_alloc_new w _⟩
    rw [hW0]
    clear hW0
    obtain ⟨hp0, hp1, hp2, hp3, hp4, hp5, hp6, hp7⟩ := rc_facts hb0.out
    refine bodyPost_ret (v := .tuple #[rcV zRc, .int .i64 0, .int .i64 10]) (by simp [results, Try.results41, go_sem, hp0, hp1, hp2, hp3, hp4, hp5, hp6, hp7, zRc]) rfl ?_
    exact hR.out _ _ ⟨by rw [hdec.out], hk0.out⟩
  · obtain ⟨x, hx⟩ : ∃ x, b[0]? = some x := ⟨_, List.getElem?_eq_getElem (by have := hlen.out; omega)⟩
    obtain ⟨z, hz⟩ : ∃ z, b[1]? = some z := ⟨_, List.getElem?_eq_getElem (by have := hlen.out; omega)⟩
    have hM : leN (b.take 2) = x.toNat + 256 * z.toNat := by
      have e1 := leN_take_succ b 0 x hx 2 (by omega)
      have e2 := leN_take_succ b 1 z hz 2 (by omega)
      have hz0 : leN ((b.take 2).drop (1 + 1)) = 0 := by rw [List.drop_eq_nil_of_le (by rw [List.length_take]; omega)]; rfl
      rw [hz0] at e2
      simp only [Nat.zero_add, List.drop_zero] at e1
      omega
    go_enter Try.func41, Try.ntmps41
    go_upto_region 3 with fail
    obtain ⟨W0, hW0⟩ : ∃ W0, w.alloc (Obj.cells zrs 46) = W0 := ⟨_, rfl⟩
    have hk0 : Hd (Ext w W0) := ⟨by rw [← hW0]; exact (ext_refl w).alloc _⟩
    have hb0 : Hd (W0.heap[w.heap.size]? = some (.cells zrs 46 (0, 0))) := ⟨by rw [← hW0]; exact heap_alloc_new w _⟩
    rw [hW0]
    clear hW0
    obtain ⟨gr, hgq⟩ : ∃ gr, w.heap.size = gr := ⟨_, rfl⟩
    rw [hgq] at hb0 ⊢
    have hgr := Hd.mk hgq
    clear hgq
    obtain ⟨ad, rfl, hcx⟩ := (HS.out.ext hk0.out).at_ (sz := 1) (fun _ => rfl) 0 x hx
    obtain ⟨ad', e', hcz⟩ := (HS.out.ext hk0.out).at_ (sz := 1) (fun _ => rfl) 1 z hz
    cases e'
    have hcx : W0.cell? (ad.add 0) = some (.int .u8 x.toNat) := hcx 0 _ rfl
    have hcx' : W0.cell? ad = some (.int .u8 x.toNat) := by rwa [addr_zero] at hcx
    have hcz : W0.cell? (ad.add 1) = some (.int .u8 z.toNat) := hcz 0 _ rfl
    have hcz' : W0.cell? ⟨ad.block, ad.off + 1, none⟩ = some (.int .u8 z.toNat) := hcz
    have hx1 : (x.toNat : Int) ≤ 255 := by have := byte_lt x; omega
    have hz1 : (z.toNat : Int) ≤ 255 := by have := byte_lt z; omega
    have hx0 : (0 : Int) ≤ (x.toNat : Int) := by omega
    have hz0 : (0 : Int) ≤ (z.toNat : Int) := by omega
    have h1n : ¬ (n : Int) < 2 := by omega
    have h1p : (1 : Int) < (n : Int) := by omega
    have h0p : (0 : Int) < (n : Int) := by omega
    have hw1 : IntKind.i64.wrap (x.toNat : Int) = x.toNat := by rw [IntKind.wrap_i64]; omega
    have hw2 : IntKind.i64.wrap (z.toNat : Int) = z.toNat := by rw [IntKind.wrap_i64]; omega
    have hw3 : IntKind.i64.wrap (256 * (z.toNat : Int)) = 256 * z.toNat := by rw [IntKind.wrap_i64]; omega
    have hw4 : IntKind.i64.wrap ((x.toNat : Int) + 256 * (z.toNat : Int)) = x.toNat + 256 * z.toNat := by rw [IntKind.wrap_i64]; omega
    go_region
    obtain ⟨m, hm⟩ : ∃ m : Nat, x.toNat + 256 * z.toNat = m := ⟨_, rfl⟩
    have e : (x.toNat : Int) + 256 * (z.toNat : Int) = (m : Int) := by omega
    rw [e]
    clear e hcx hcx' hcz hcz' hw1 hw2 hw3 hw4
    obtain ⟨W1, hW1⟩ : ∃ W1, W0.drew = W1 := ⟨_, rfl⟩
    have hK1 : Hd (Ext w W1) := ⟨by rw [← hW1]; exact hk0.out.drew⟩
    have hb1 : Hd (W1.heap[gr]? = some (.cells zrs 46 (0, 0))) := ⟨by rw [← hW1]; exact hb0.out⟩
    rw [hW1]
    clear hW1 hk0 hb0
    rw [hm] at hM
    rw [hM] at hfl
    have hmb : (m : Int) ≤ 65535 := by omega
    have hM := Hd.mk hM
    clear hm hx0 hz0 hx1 hz1
    by_cases h2 : n < m + 6
    · have hdec := Hd.mk (decRec_short (b := b) (by have := hfl.out; have := hlen.out; omega))
      have h2' : (n : Int) < (m : Int) + 6 := by omega
      have h2 := Hd.mk h2
      have hbr := hb1.out
      obtain ⟨hp0, hp1, hp2, hp3, hp4, hp5, hp6, hp7, hf0, hf1, hf2, hf3, hf4, hf5, hf6, hf7⟩ := zr_facts hbr
      have hbr := Hd.mk hbr
      go_wp2_with fail
      obtain ⟨V9, hV9⟩ : ∃ V9, (((((((W1.setCell ⟨gr, 0, none⟩ (.int .i64 0)).setCell ⟨gr, 1, none⟩ (.int .i64 0)).setCell ⟨gr, 2, none⟩ (.int .i64 0)).setCell ⟨gr, 3, none⟩ (.int .i64 0)).setCell ⟨gr, 4, none⟩ (.int .i64 0)).setCell ⟨gr, 5, none⟩ (.int .i64 0)).setCell ⟨gr, 6, none⟩ (.string ⟨#[]⟩)).setCell ⟨gr, 7, none⟩ (.string ⟨#[]⟩) = V9 := ⟨_, rfl⟩
      have hch := chain8 hbr.out _ _ _ _ _ _ _ _ hV9
      rw [hV9]
      clear hV9 hp0 hp1 hp2 hp3 hp4 hp5 hp6 hp7 hf0 hf1 hf2 hf3 hf4 hf5 hf6 hf7
      obtain ⟨he0, he1, he2, he3, he4, he5, he6, he7⟩ := rc_facts hch.1
      have hk9 := Hd.mk hch.2
      clear hch
      refine bodyPost_ret (v := .tuple #[rcV zRc, .int .i64 0, .int .i64 10]) (by simp [results, Try.results41, go_sem, he0, he1, he2, he3, he4, he5, he6, he7, zRc]) rfl ?_
      exact hR.out _ _ ⟨by rw [hdec.out], hK1.out.trans hk9.out (fun k hk e => by have := hgr.out; omega)⟩
    · have h3 : Hd (¬ (b.length < 2 ∨ b.length < fLen b)) := ⟨by have := hfl.out; have := hlen.out; omega⟩
      have h2' : ¬ (n : Int) < (m : Int) + 6 := by omega
      obtain ⟨N, hNq⟩ : ∃ N, m + 6 = N := ⟨_, rfl⟩
      have hNn : Hd (N ≤ n) := ⟨by omega⟩
      have hN := Hd.mk hNq
      clear hNq h2
      obtain ⟨ht, hcut⟩ := cut_to Try.E8 HS.out N hNn.out
      have hcut' : ∀ w', (Instr.slice 31 (.slice (some ad) n c) none (some (.int .i64 ((m : Int) + 6))) none).run Try.prog w' = .ok (.slice (some ad) N c) w' := by
        have e : ((m : Int) + 6) = ((N : Nat) : Int) := by have := hN.out; omega
        rw [e]; exact hcut
      clear hcut
      go_wp2_with fail
      refine (refopen_any (some ad) N c (b.take N) W1 (ht.out.ext hK1.out) (by have := hN.out; omega)).mono ?_
      rintro e W2 ⟨hk2, A2, n2, c2, rfl⟩
      have hl3 : Hd ((b.take N).length = N) := ⟨by rw [List.length_take]; have := hNn.out; have := hlen.out; omega⟩
      have hK2 := Hd.mk (hK1.out.then' hk2)
      have hb2 := Hd.mk (hk2.blk hb1.out id)
      rw [if_neg (show ¬ (b.take N).length < 4 by have := hl3.out; have := hN.out; omega)]
      clear hk2 hb1 hcut'
      by_cases hop : openOk (b.take N)
      · rw [if_pos hop]
        have hop : Hd (openOk (b.take (fLen b))) := ⟨by rw [hfl.out, hN.out]; exact hop⟩
        obtain ⟨A3, c3, hs3, _, hcut3⟩ := cut_mid Try.E8 HS.out 2 m (by have := hNn.out; have := hN.out; omega)
        have hcut3' : ∀ w', (Instr.slice 31 (.slice (some ad) n c) (some (.int .i64 2)) (some (.int .i64 ((m : Int) + 2))) none).run Try.prog w' = .ok (.slice A3 m c3) w' := by
          have e : ((m : Int) + 2) = ((2 : Nat) : Int) + (m : Int) := by omega
          rw [e]; exact hcut3
        clear hcut3
        go_upto_region 11 with fail
        obtain ⟨V0, hV0⟩ : ∃ V0, (W2.alloc (.cells #[.slice A3 m c3, .int .i64 0] 140)).alloc (.cells zrs 46) = V0 := ⟨_, rfl⟩
        have hst := Hd.mk (Rq.first hK2.out hb2.out (by have := hgr.out; omega) hs3.out (by omega) hV0)
        rw [hV0]
        clear hV0 hcut3' hb2
        obtain ⟨g, hg⟩ : ∃ g, W2.heap.size = g := ⟨_, rfl⟩
        rw [hg] at hst ⊢
        obtain ⟨go, hgo⟩ : ∃ go, g + 1 = go := ⟨_, rfl⟩
        rw [hgo] at hst ⊢
        clear hg hgo
        obtain ⟨s0, hs0⟩ : ∃ s : RSt, (fIn b, 0) = s := ⟨_, rfl⟩
        have hst : Hd (Rq w V0 gr g go s0) := ⟨by rw [← hs0]; unfold fIn; rw [hM.out]; exact hst.out⟩
        have HZ := Hd.mk hs0
        clear hs0
        go_wp2_with fail
        refine (rrnum g s0 8 rfl _ hst.out.rd hst.out.small).mono ?_
        rintro e V1 ⟨⟨_, rfl⟩, hr1, hk1⟩
        have hst1 := Hd.mk (hst.out.step hk1 hr1 (rdN_rest _ _))
        clear hr1 hk1 hst
        obtain ⟨lsn, hx⟩ : ∃ x, (rdN 8 s0).1 = x := ⟨_, rfl⟩
        obtain ⟨s1, hs⟩ : ∃ s, (rdN 8 s0).2 = s := ⟨_, rfl⟩
        rw [hx]
        rw [hs] at hst1
        have Hlsn := Hd.mk (And.intro hx hs)
        clear hx hs
        have hst := hst1
        clear hst1
        go_wp2_with fail
        refine (rrnum g s1 8 rfl _ hst.out.rd hst.out.small).mono ?_
        rintro e V1 ⟨⟨_, rfl⟩, hr1, hk1⟩
        have hst1 := Hd.mk (hst.out.step hk1 hr1 (rdN_rest _ _))
        clear hr1 hk1 hst
        obtain ⟨epoch, hx⟩ : ∃ x, (rdN 8 s1).1 = x := ⟨_, rfl⟩
        obtain ⟨s2, hs⟩ : ∃ s, (rdN 8 s1).2 = s := ⟨_, rfl⟩
        rw [hx]
        rw [hs] at hst1
        have Hepoch := Hd.mk (And.intro hx hs)
        clear hx hs
        have hst := hst1
        clear hst1
        go_wp2_with fail
        refine (rrnum g s2 1 rfl _ hst.out.rd hst.out.small).mono ?_
        rintro e V1 ⟨⟨_, rfl⟩, hr1, hk1⟩
        have hst1 := Hd.mk (hst.out.step hk1 hr1 (rdN_rest _ _))
        clear hr1 hk1 hst
        obtain ⟨kind, hx⟩ : ∃ x, (rdN 1 s2).1 = x := ⟨_, rfl⟩
        obtain ⟨s3, hs⟩ : ∃ s, (rdN 1 s2).2 = s := ⟨_, rfl⟩
        rw [hx]
        rw [hs] at hst1
        have Hkind := Hd.mk (And.intro hx hs)
        clear hx hs
        have hst := hst1
        clear hst1
        go_wp2_with fail
        refine (rrnum g s3 4 rfl _ hst.out.rd hst.out.small).mono ?_
        rintro e V1 ⟨⟨_, rfl⟩, hr1, hk1⟩
        have hst1 := Hd.mk (hst.out.step hk1 hr1 (rdN_rest _ _))
        clear hr1 hk1 hst
        obtain ⟨page, hx⟩ : ∃ x, (rdN 4 s3).1 = x := ⟨_, rfl⟩
        obtain ⟨s4, hs⟩ : ∃ s, (rdN 4 s3).2 = s := ⟨_, rfl⟩
        rw [hx]
        rw [hs] at hst1
        have Hpage := Hd.mk (And.intro hx hs)
        clear hx hs
        have hst := hst1
        clear hst1
        go_wp2_with fail
        refine (rrnum g s4 4 rfl _ hst.out.rd hst.out.small).mono ?_
        rintro e V1 ⟨⟨_, rfl⟩, hr1, hk1⟩
        have hst1 := Hd.mk (hst.out.step hk1 hr1 (rdN_rest _ _))
        clear hr1 hk1 hst
        obtain ⟨other, hx⟩ : ∃ x, (rdN 4 s4).1 = x := ⟨_, rfl⟩
        obtain ⟨s5, hs⟩ : ∃ s, (rdN 4 s4).2 = s := ⟨_, rfl⟩
        rw [hx]
        rw [hs] at hst1
        have Hother := Hd.mk (And.intro hx hs)
        clear hx hs
        have hst := hst1
        clear hst1
        go_wp2_with fail
        refine (rrnum g s5 8 rfl _ hst.out.rd hst.out.small).mono ?_
        rintro e V1 ⟨⟨_, rfl⟩, hr1, hk1⟩
        have hst1 := Hd.mk (hst.out.step hk1 hr1 (rdN_rest _ _))
        clear hr1 hk1 hst
        obtain ⟨req, hx⟩ : ∃ x, (rdN 8 s5).1 = x := ⟨_, rfl⟩
        obtain ⟨s6, hs⟩ : ∃ s, (rdN 8 s5).2 = s := ⟨_, rfl⟩
        rw [hx]
        rw [hs] at hst1
        have Hreq := Hd.mk (And.intro hx hs)
        clear hx hs
        have hst := hst1
        clear hst1
        go_wp2_with fail
        refine (rrtext g s6 65535 _ hst.out.rd hst.out.small).mono ?_
        rintro e V1 ⟨⟨_, rfl⟩, hr1, hk1⟩
        have hst1 := Hd.mk (hst.out.step hk1 hr1 (rdT_rest _ _))
        clear hr1 hk1 hst
        obtain ⟨key, hx⟩ : ∃ x, (rdT 65535 s6).1 = x := ⟨_, rfl⟩
        obtain ⟨s7, hs⟩ : ∃ s, (rdT 65535 s6).2 = s := ⟨_, rfl⟩
        rw [hx]
        rw [hs] at hst1
        have hzkey : Hd (key.size ≤ 65535) := ⟨by rw [← hx]; exact rdT_size _ _⟩
        have Hkey := Hd.mk (And.intro hx hs)
        clear hx hs
        have hst := hst1
        clear hst1
        go_wp2_with fail
        refine (rrtext g s7 65535 _ hst.out.rd hst.out.small).mono ?_
        rintro e V1 ⟨⟨_, rfl⟩, hr1, hk1⟩
        have hst1 := Hd.mk (hst.out.step hk1 hr1 (rdT_rest _ _))
        clear hr1 hk1 hst
        obtain ⟨value, hx⟩ : ∃ x, (rdT 65535 s7).1 = x := ⟨_, rfl⟩
        obtain ⟨s8, hs⟩ : ∃ s, (rdT 65535 s7).2 = s := ⟨_, rfl⟩
        rw [hx]
        rw [hs] at hst1
        have hzvalue : Hd (value.size ≤ 65535) := ⟨by rw [← hx]; exact rdT_size _ _⟩
        have Hvalue := Hd.mk (And.intro hx hs)
        clear hx hs
        have hst := hst1
        clear hst1
        obtain ⟨hp0, hp1, hp2, hp3, hp4, hp5, hp6, hp7, hf0, hf1, hf2, hf3, hf4, hf5, hf6, hf7⟩ := zr_facts hst.out.out
        go_upto_region 27 with fail
        obtain ⟨U9, hV9⟩ : ∃ U9, (((((((V1.setCell ⟨go, 0, none⟩ (.int .i64 lsn)).setCell ⟨go, 1, none⟩ (.int .i64 epoch)).setCell ⟨go, 2, none⟩ (.int .i64 kind)).setCell ⟨go, 3, none⟩ (.int .i64 page)).setCell ⟨go, 4, none⟩ (.int .i64 other)).setCell ⟨go, 5, none⟩ (.int .i64 req)).setCell ⟨go, 6, none⟩ (.string key)).setCell ⟨go, 7, none⟩ (.string value) = U9 := ⟨_, rfl⟩
        have hch := chain8 hst.out.out _ _ _ _ _ _ _ _ hV9
        rw [hV9]
        clear hV9 hp0 hp1 hp2 hp3 hp4 hp5 hp6 hp7 hf0 hf1 hf2 hf3 hf4 hf5 hf6 hf7
        have hrd9 : Hd (Rr U9 g s8.1 s8.2) := ⟨hst.out.rd.keepB hch.2 (fun k e => by have := hst.out.lto; omega)⟩
        have hE9 : Hd (Ext w U9) := ⟨hst.out.keep.trans hch.2 (fun k hk e => by have h1 := hst.out.ltr; have h2 := hst.out.ltg; have h3 := hst.out.lto; omega)⟩
        have hb9 := Hd.mk (hch.2.blk hst.out.res (by have h2 := hst.out.ltg; have h3 := hst.out.lto; omega))
        have ho9 := Hd.mk hch.1
        have hsm := Hd.mk hst.out.small
        clear hch hst
        have hx0 : Hd (rdRec (fIn b, 0) = (⟨lsn, epoch, kind, page, other, req, key, value⟩, s8)) := ⟨by
          unfold rdRec
          simp only [HZ.out, Hlsn.out.1, Hlsn.out.2, Hepoch.out.1, Hepoch.out.2, Hkind.out.1, Hkind.out.2, Hpage.out.1, Hpage.out.2, Hother.out.1, Hother.out.2, Hreq.out.1, Hreq.out.2, Hkey.out.1, Hkey.out.2, Hvalue.out.1, Hvalue.out.2]⟩
        clear HZ Hlsn Hepoch Hkind Hpage Hother Hreq Hkey Hvalue
        obtain ⟨hd0, hd1, hd2, hd3, hd4, hd5, hd6, hd7⟩ := rc_facts ho9.out
        go_wp2_with fail
        refine (refrend_any g s8.1 s8.2 U9 hrd9.out hsm.out).mono ?_
        rintro e V10 ⟨rfl, rfl⟩
        obtain ⟨en, hen⟩ : ∃ en, rEnd s8.1 s8.2 = en := ⟨_, rfl⟩
        rw [hen]
        have hen := Hd.mk hen
        cases hz : (en != 0) with
        | true =>
          have hz2 : Hd ((readR (fIn b)).2 ≠ 0) := ⟨by unfold readR; rw [hx0.out]; simp only [hen.out]; rw [if_pos (by simpa using hz)]; simp⟩
          have hdec := Hd.mk (decRec_bad h3.out hop.out hz2.out)
          have hbr := hb9.out
          obtain ⟨hp0, hp1, hp2, hp3, hp4, hp5, hp6, hp7, hf0, hf1, hf2, hf3, hf4, hf5, hf6, hf7⟩ := zr_facts hbr
          have hbr := Hd.mk hbr
          go_wp2_with fail
          clear hd0 hd1 hd2 hd3 hd4 hd5 hd6 hd7
          obtain ⟨V9, hV9⟩ : ∃ V9, (((((((U9.setCell ⟨gr, 0, none⟩ (.int .i64 0)).setCell ⟨gr, 1, none⟩ (.int .i64 0)).setCell ⟨gr, 2, none⟩ (.int .i64 0)).setCell ⟨gr, 3, none⟩ (.int .i64 0)).setCell ⟨gr, 4, none⟩ (.int .i64 0)).setCell ⟨gr, 5, none⟩ (.int .i64 0)).setCell ⟨gr, 6, none⟩ (.string ⟨#[]⟩)).setCell ⟨gr, 7, none⟩ (.string ⟨#[]⟩) = V9 := ⟨_, rfl⟩
          have hch := chain8 hbr.out _ _ _ _ _ _ _ _ hV9
          rw [hV9]
          clear hV9 hp0 hp1 hp2 hp3 hp4 hp5 hp6 hp7 hf0 hf1 hf2 hf3 hf4 hf5 hf6 hf7
          obtain ⟨he0, he1, he2, he3, he4, he5, he6, he7⟩ := rc_facts hch.1
          have hk9 := Hd.mk hch.2
          clear hch
          refine bodyPost_ret (v := .tuple #[rcV zRc, .int .i64 0, .int .i64 90]) (by simp [results, Try.results41, go_sem, he0, he1, he2, he3, he4, he5, he6, he7, zRc]) rfl ?_
          exact hR.out _ _ ⟨by rw [hdec.out], hE9.out.trans hk9.out (fun k hk e => by have := hgr.out; omega)⟩
        | false =>
          have hrr : Hd (readR (fIn b) = (⟨lsn, epoch, kind, page, other, req, key, value⟩, ckR ⟨lsn, epoch, kind, page, other, req, key, value⟩)) := ⟨by unfold readR; rw [hx0.out]; simp only [hen.out]; rw [if_neg (by simpa using hz)]⟩
          have hrs : Hd (RcS (⟨lsn, epoch, kind, page, other, req, key, value⟩ : Rc)) := ⟨⟨by have := hzkey.out; simp only; omega, by have := hzvalue.out; simp only; omega⟩⟩
          go_wp2_with fail
          refine (rright_any (⟨lsn, epoch, kind, page, other, req, key, value⟩ : Rc) hrs.out U9).mono ?_
          rintro e V11 ⟨rfl, hk11⟩
          have hE11 := Hd.mk (hE9.out.then' hk11)
          have hb11 := Hd.mk (hk11.blk hb9.out id)
          have ho11 := Hd.mk (hk11.blk ho9.out id)
          clear hk11 hd0 hd1 hd2 hd3 hd4 hd5 hd6 hd7
          obtain ⟨hd0, hd1, hd2, hd3, hd4, hd5, hd6, hd7⟩ := rc_facts ho11.out
          have hbr := hb11.out
          obtain ⟨hp0, hp1, hp2, hp3, hp4, hp5, hp6, hp7, hf0, hf1, hf2, hf3, hf4, hf5, hf6, hf7⟩ := zr_facts hbr
          have hbr := Hd.mk hbr
          cases hok : okR ⟨lsn, epoch, kind, page, other, req, key, value⟩ with
          | false =>
            have hz2 : Hd ((readR (fIn b)).2 ≠ 0) := ⟨by rw [hrr.out]; simp only; rw [ckR_not hok]; simp⟩
            have hdec := Hd.mk (decRec_bad h3.out hop.out hz2.out)
            clear hok
            go_wp2_with fail
            clear hd0 hd1 hd2 hd3 hd4 hd5 hd6 hd7
            obtain ⟨V9, hV9⟩ : ∃ V9, (((((((V11.setCell ⟨gr, 0, none⟩ (.int .i64 0)).setCell ⟨gr, 1, none⟩ (.int .i64 0)).setCell ⟨gr, 2, none⟩ (.int .i64 0)).setCell ⟨gr, 3, none⟩ (.int .i64 0)).setCell ⟨gr, 4, none⟩ (.int .i64 0)).setCell ⟨gr, 5, none⟩ (.int .i64 0)).setCell ⟨gr, 6, none⟩ (.string ⟨#[]⟩)).setCell ⟨gr, 7, none⟩ (.string ⟨#[]⟩) = V9 := ⟨_, rfl⟩
            have hch := chain8 hbr.out _ _ _ _ _ _ _ _ hV9
            rw [hV9]
            clear hV9 hp0 hp1 hp2 hp3 hp4 hp5 hp6 hp7 hf0 hf1 hf2 hf3 hf4 hf5 hf6 hf7
            obtain ⟨he0, he1, he2, he3, he4, he5, he6, he7⟩ := rc_facts hch.1
            have hk9 := Hd.mk hch.2
            clear hch
            refine bodyPost_ret (v := .tuple #[rcV zRc, .int .i64 0, .int .i64 90]) (by simp [results, Try.results41, go_sem, he0, he1, he2, he3, he4, he5, he6, he7, zRc]) rfl ?_
            exact hR.out _ _ ⟨by rw [hdec.out], hE11.out.trans hk9.out (fun k hk e => by have := hgr.out; omega)⟩
          | true =>
            have hz2 : Hd ((readR (fIn b)).2 = 0) := ⟨by rw [hrr.out]; simp only; rw [ckR_yes hok]⟩
            have hdec : Hd (decRec b = (⟨lsn, epoch, kind, page, other, req, key, value⟩, (fLen b : Int), 0)) := ⟨by rw [(decRec_good h3.out hop.out hz2.out).1, hrr.out]⟩
            have hfi : Hd ((fLen b : Int) = (m : Int) + 6) := ⟨by rw [hfl.out]; omega⟩
            clear hok
            go_wp2_with fail
            obtain ⟨V12, hV9⟩ : ∃ V9, (((((((V11.setCell ⟨gr, 0, none⟩ (.int .i64 lsn)).setCell ⟨gr, 1, none⟩ (.int .i64 epoch)).setCell ⟨gr, 2, none⟩ (.int .i64 kind)).setCell ⟨gr, 3, none⟩ (.int .i64 page)).setCell ⟨gr, 4, none⟩ (.int .i64 other)).setCell ⟨gr, 5, none⟩ (.int .i64 req)).setCell ⟨gr, 6, none⟩ (.string key)).setCell ⟨gr, 7, none⟩ (.string value) = V9 := ⟨_, rfl⟩
            have hch := chain8 hbr.out _ _ _ _ _ _ _ _ hV9
            rw [hV9]
            clear hV9 hp0 hp1 hp2 hp3 hp4 hp5 hp6 hp7 hf0 hf1 hf2 hf3 hf4 hf5 hf6 hf7 hd0 hd1 hd2 hd3 hd4 hd5 hd6 hd7
            obtain ⟨he0, he1, he2, he3, he4, he5, he6, he7⟩ := rc_facts hch.1
            have hk9 := Hd.mk hch.2
            clear hch
            refine bodyPost_ret (v := .tuple #[rcV (⟨lsn, epoch, kind, page, other, req, key, value⟩ : Rc), .int .i64 ((m : Int) + 6), .int .i64 0]) (by simp [results, Try.results41, go_sem, he0, he1, he2, he3, he4, he5, he6, he7]) rfl ?_
            exact hR.out _ _ ⟨by rw [hdec.out, ← hfi.out], hE11.out.trans hk9.out (fun k hk e => by have := hgr.out; omega)⟩
      · rw [if_neg hop]
        have hdec : Hd (decRec b = (zRc, 0, 20)) := ⟨decRec_sum h3.out (by rw [hfl.out, hN.out]; exact hop)⟩
        have hbr := hb2.out
        obtain ⟨hp0, hp1, hp2, hp3, hp4, hp5, hp6, hp7, hf0, hf1, hf2, hf3, hf4, hf5, hf6, hf7⟩ := zr_facts hbr
        have hbr := Hd.mk hbr
        go_wp2_with fail
        obtain ⟨V9, hV9⟩ : ∃ V9, (((((((W2.setCell ⟨gr, 0, none⟩ (.int .i64 0)).setCell ⟨gr, 1, none⟩ (.int .i64 0)).setCell ⟨gr, 2, none⟩ (.int .i64 0)).setCell ⟨gr, 3, none⟩ (.int .i64 0)).setCell ⟨gr, 4, none⟩ (.int .i64 0)).setCell ⟨gr, 5, none⟩ (.int .i64 0)).setCell ⟨gr, 6, none⟩ (.string ⟨#[]⟩)).setCell ⟨gr, 7, none⟩ (.string ⟨#[]⟩) = V9 := ⟨_, rfl⟩
        have hch := chain8 hbr.out _ _ _ _ _ _ _ _ hV9
        rw [hV9]
        clear hV9 hp0 hp1 hp2 hp3 hp4 hp5 hp6 hp7 hf0 hf1 hf2 hf3 hf4 hf5 hf6 hf7
        obtain ⟨he0, he1, he2, he3, he4, he5, he6, he7⟩ := rc_facts hch.1
        have hk9 := Hd.mk hch.2
        clear hch
        refine bodyPost_ret (v := .tuple #[rcV zRc, .int .i64 0, .int .i64 20]) (by simp [results, Try.results41, go_sem, he0, he1, he2, he3, he4, he5, he6, he7, zRc]) rfl ?_
        exact hR.out _ _ ⟨by rw [hdec.out], hK2.out.trans hk9.out (fun k hk e => by have := hgr.out; omega)⟩
end Go.Proofs.Ythpfkdaijiaalaa
