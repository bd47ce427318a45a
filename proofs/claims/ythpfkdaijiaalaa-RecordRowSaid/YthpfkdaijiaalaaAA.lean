/- The reference's Decode. -/
import Derived.Test.YthpfkdaijiaalaaZ
import Derived.Test.YthpfkdaijiaalaaV
namespace Go.Proofs.Ythpfkdaijiaalaa
open Go.RowKit

theorem rdN2_le (s : RSt) : (rdN 2 s).1 ≤ 65535 := by
  unfold rdN rNum
  have := leN_lt (s.1.take 2)
  have h2 : (s.1.take 2).length ≤ 2 := by rw [List.length_take]; omega
  have h3 : 256 ^ (s.1.take 2).length ≤ 256 ^ 2 := Nat.pow_le_pow_right (by omega) h2
  split <;> (try split) <;> (try split) <;> simp only <;> omega
def RetNr (w : World) (g : Nat) (r : Int × RSt) (e : Ending) (w' : World) : Prop := (∃ x : Int, e = .returned (.tuple #[.int .i64 r.1, .int .i64 x])) ∧ Rr w' g r.2.1 r.2.2 ∧ Keep (fun k => k = g) w w'
def RetTr (w : World) (g : Nat) (r : ByteArray × RSt) (e : Ending) (w' : World) : Prop := (∃ x : Int, e = .returned (.tuple #[.string r.1, .int .i64 x])) ∧ Rr w' g r.2.1 r.2.2 ∧ Keep (fun k => k = g) w w'
theorem rrnum (g : Nat) (s : RSt) (k : Nat) (hk : sizedB k = true) (w : World) (h : Rr w g s.1 s.2) (hm : s.1.length ≤ 140737488355328) :
    Calls Try.prog 93 #[.pointer (some ⟨g, 0, none⟩), .int .i64 k] w (RetNr w g (rdN k s)) := by
  refine (refrnum_any g s.1 s.2 k hk w h hm).mono ?_
  rintro e w' ⟨h1, h2, h3⟩
  exact ⟨⟨_, h1⟩, h2, h3⟩
theorem rrtext (g : Nat) (s : RSt) (m : Nat) (w : World) (h : Rr w g s.1 s.2) (hm : s.1.length ≤ 140737488355328) :
    Calls Try.prog 94 #[.pointer (some ⟨g, 0, none⟩), .int .i64 m] w (RetTr w g (rdT m s)) := by
  refine (refrtext_any g s.1 s.2 m w h hm).mono ?_
  rintro e w' ⟨h1, h2, h3⟩
  exact ⟨⟨_, h1⟩, h2, h3⟩
/-- Where the definition's reader stands: the result's block gr, the reader g, the node gn. -/
structure Rm (w V : World) (gr g gn : Nat) (ns : Array Value) (s : RSt) : Prop where
  keep : Ext w V
  rd : Rr V g s.1 s.2
  small : s.1.length ≤ 140737488355328
  res : V.heap[gr]? = some (.cells zcs 25 (0, 0))
  node : V.heap[gn]? = some (.cells ns 25 (0, 0))
  ltr : w.heap.size ≤ gr
  ltg : gr < g
  ltn : g < gn
theorem Rm.lt {w V : World} {gr g gn : Nat} {ns : Array Value} {s : RSt} (h : Rm w V gr g gn ns s) : gn + 1 ≤ V.heap.size := (Array.getElem?_eq_some_iff.1 h.node).1
theorem Rm.step {w V V' : World} {gr g gn : Nat} {ns : Array Value} {s s' : RSt} (h : Rm w V gr g gn ns s) (hk : Keep (fun k => k = g) V V') (hr : Rr V' g s'.1 s'.2) (hl : s'.1.length ≤ s.1.length) : Rm w V' gr g gn ns s' := by
  have h1 := h.ltr; have h2 := h.ltg; have h3 := h.ltn
  exact ⟨h.keep.trans hk (fun k hk' e => by omega), hr, Nat.le_trans hl h.small, hk.blk h.res (by omega), hk.blk h.node (by omega), h1, h2, h3⟩
theorem Rm.grow {w V V' : World} {gr g gn : Nat} {ns : Array Value} {s : RSt} {S : Nat → Prop} (h : Rm w V gr g gn ns s) (hk : Keep S V V') (hS : ∀ k, S k → gn < k) : Rm w V' gr g gn ns s := by
  have h1 := h.ltr; have h2 := h.ltg; have h3 := h.ltn
  exact ⟨h.keep.trans hk (fun k hk' hs => by have := hS k hs; omega), h.rd.keepB hk (fun k hs => by have := hS k hs; omega), h.small, hk.blk h.res (fun hs => by have := hS _ hs; omega), hk.blk h.node (fun hs => by have := hS _ hs; omega), h1, h2, h3⟩
theorem Rm.set {w V : World} {gr g gn : Nat} {ns : Array Value} {s : RSt} (h : Rm w V gr g gn ns s) (i : Nat) (v : Value) : Rm w (V.setCell ⟨gn, i, none⟩ v) gr g gn (ns.setIfInBounds i v) s := by
  have h1 := h.ltr; have h2 := h.ltg; have h3 := h.ltn
  have hk : Keep (fun k => k = gn) V (V.setCell ⟨gn, i, none⟩ v) := (Keep.refl (fun k => k = gn) V).setCell (p := ⟨gn, i, none⟩) (fun _ => rfl) v
  exact ⟨h.keep.trans hk (fun k hk' hs => by omega), h.rd.keepB hk (fun k hs => by omega), h.small, hk.blk h.res (by omega), by rw [heap_setCell_same V gn i _ _ _ h.node], h1, h2, h3⟩
theorem Rm.facts {w V : World} {gr g gn : Nat} {v0 v1 v2 v3 v4 v5 v6 : Value} {s : RSt} (h : Rm w V gr g gn #[v0, v1, v2, v3, v4, v5, v6] s) :
    V.cell? ⟨gn, 0, none⟩ = some v0 ∧ V.cell? ⟨gn, 1, none⟩ = some v1 ∧ V.cell? ⟨gn, 2, none⟩ = some v2 ∧ V.cell? ⟨gn, 3, none⟩ = some v3 ∧ V.cell? ⟨gn, 4, none⟩ = some v4 ∧ V.cell? ⟨gn, 5, none⟩ = some v5 ∧ V.cell? ⟨gn, 6, none⟩ = some v6 := by
  have hb := h.node
  refine ⟨?_, ?_, ?_, ?_, ?_, ?_, ?_⟩ <;> simp [World.cell?, hb]
theorem Rm.loose {w V : World} {gr g gn : Nat} {ns : Array Value} {s : RSt} (h : Rm w V gr g gn ns s) (i : Nat) : V.frozen? ⟨gn, i, none⟩ = false := by
  have hb := h.node
  simp [World.frozen?, hb]
theorem Rm.err {w V : World} {gr g gn : Nat} {ns : Array Value} {s : RSt} (h : Rm w V gr g gn ns s) : V.cell? ⟨g, 1, none⟩ = some (.int .i64 s.2) := by
  obtain ⟨A, N, c, hb, _⟩ := h.rd.row
  simp [World.cell?, hb]
theorem Rm.first {w : World} {A : Option Addr} {c : Nat} {bs : List UInt8} (hs : SlAt enc8 w A 252 c bs) {V : World}
    (e : ((w.alloc (.cells zcs 25)).alloc (.cells #[.slice A 252 c, .int .i64 0] 140)).alloc (.cells zcs 25) = V) : Rm w V w.heap.size (w.heap.size + 1) (w.heap.size + 1 + 1) zcs (bs, 0) := by
  have k1 := (ext_refl w).alloc (.cells zcs 25)
  have k2 := (ext_refl (w.alloc (.cells zcs 25))).alloc (.cells #[.slice A 252 c, .int .i64 0] 140)
  have k3 := (ext_refl ((w.alloc (.cells zcs 25)).alloc (.cells #[.slice A 252 c, .int .i64 0] 140))).alloc (.cells zcs 25)
  have r1 := heap_alloc_new w (.cells zcs 25)
  have r2 := heap_alloc_new (w.alloc (.cells zcs 25)) (.cells #[.slice A 252 c, .int .i64 0] 140)
  have r3 := heap_alloc_new ((w.alloc (.cells zcs 25)).alloc (.cells #[.slice A 252 c, .int .i64 0] 140)) (.cells zcs 25)
  have e1 : (w.alloc (.cells zcs 25)).heap.size = w.heap.size + 1 := by simp
  have e2 : ((w.alloc (.cells zcs 25)).alloc (.cells #[.slice A 252 c, .int .i64 0] 140)).heap.size = w.heap.size + 1 + 1 := by simp
  rw [e1] at r2
  rw [e2] at r3
  rw [e] at r3 k3
  have hl : bs.length = 252 := hs.len
  refine ⟨(k1.ext k2).ext k3, ⟨A, 252, c, k3.blk r2 id, hs.ext ((k1.ext k2).ext k3), fun h0 ad hA => ?_⟩, by simp only; omega, (k2.ext k3).blk r1 id, r3, Nat.le_refl _, by omega, by omega⟩
  obtain ⟨ad', h1, h2⟩ := hs.src (fun h => h0 (by cases bs with | nil => rfl | cons x xs => simp [flat, enc8] at h))
  rw [hA] at h1; cases h1
  obtain ⟨x, hx⟩ : ∃ x, (flat enc8 bs)[0]? = some x := ⟨_, List.getElem?_eq_getElem (by rw [flat_len (sz := 1) (fun _ => rfl)]; omega)⟩
  have := World.block_lt_of_cell? w _ (h2 0 x hx)
  rw [show ad.add 0 = ad by cases ad; unfold Addr.add; simp] at this
  omega

theorem refread_page {b : List UInt8} {m : Nd} (h : pageOf b m) : rdHead 256 (b.take 252, 0) = (cutN m 0, (m.keys.length : Int), (rdHead 256 (b.take 252, 0)).2.2) ∧
    (∀ i, i ≤ m.keys.length → (rdEnts 256 i (cutN m 0, (rdHead 256 (b.take 252, 0)).2.2)).2.2 = 0) ∧ (rdEnts 256 m.keys.length (cutN m 0, (rdHead 256 (b.take 252, 0)).2.2)).1 = m := by
  have hr := (pageOf_raw h).2
  have F := pageOf_fit h
  obtain ⟨h1, h2, h3⟩ := rd_back F 256 (by omega) (List.replicate (252 - (rawB m).length) 0)
  rw [← hr] at h1
  rw [h1]
  exact ⟨rfl, h2, h3⟩
/-- What is read where the loop ends. -/
theorem ref_end {b : List UInt8} {x0 : Nd} {many : Int} {s0 : RSt} {i : Nat} {n : Nd} {sx : RSt} (h0 : rdHead 256 (b.take 252, 0) = (x0, many, s0)) (hx : rdEnts 256 i (x0, s0) = (n, sx)) (hi : (i : Int) ≤ many) (hend : sx.2 ≠ 0 ∨ many ≤ i) {m : Nd} (hm : pageOf b m) : n = m ∧ sx.2 = 0 := by
  obtain ⟨h1, h2, h3⟩ := refread_page hm
  rw [h0] at h1 h2 h3
  simp only [Prod.mk.injEq] at h1
  obtain ⟨e1, e2, -⟩ := h1
  subst e1
  simp only at h2 h3
  have hle : i ≤ m.keys.length := by omega
  have hz := h2 i hle
  rw [hx] at hz
  simp only at hz
  have hie : i = m.keys.length := by
    rcases hend with h | h
    · exact absurd hz h
    · omega
  subst hie
  rw [hx] at h3
  exact ⟨h3, hz⟩

set_option maxRecDepth 100000 in
set_option maxHeartbeats 8000000 in
theorem refdecode_any (A : Option Addr) (n c : Nat) (b : List UInt8) (w : World) (hs : SlAt enc8 w A n c b) (hn : n ≤ 140737488355328) :
    Calls Try.prog 33 #[.slice A n c] w (RetDec w b) := by
  refine hide_post fun R hR => ?_
  have HS := Hd.mk hs; clear hs
  have HN := Hd.mk hn; clear hn
  by_cases h256 : n = 256
  · subst h256
    have hl := Hd.mk HS.out.len
    obtain ⟨ht, hcut2⟩ := cut_to Try.E8 HS.out 252 (by omega)
    have hcut3 : ∀ w', (Instr.slice 31 (.slice A 256 c) none (some (.int .i64 252)) none).run Try.prog w' = .ok (.slice A 252 c) w' := hcut2
    clear hcut2
    go_enter Try.func33, Try.ntmps33
    go_wp2_with fail
    obtain ⟨V0, hV0⟩ : ∃ V0, ((w.alloc (.cells zcs 25)).alloc (.cells #[.slice A 252 c, .int .i64 0] 140)).alloc (.cells zcs 25) = V0 := ⟨_, rfl⟩
    have hst0 := Hd.mk (Rm.first ht.out hV0)
    rw [hV0]
    clear hV0 hcut3
    obtain ⟨s0, hs0⟩ : ∃ s0 : RSt, (b.take 252, 0) = s0 := ⟨_, rfl⟩
    rw [hs0] at hst0
    have HZ := Hd.mk hs0
    clear hs0
    obtain ⟨gr, hgr⟩ : ∃ gr, w.heap.size = gr := ⟨_, rfl⟩
    rw [hgr] at hst0 ⊢
    have hgr := Hd.mk hgr
    obtain ⟨g, hg⟩ : ∃ g, gr + 1 = g := ⟨_, rfl⟩
    rw [hg] at hst0 ⊢
    obtain ⟨gn, hgn⟩ : ∃ gn, g + 1 = gn := ⟨_, rfl⟩
    rw [hgn] at hst0 ⊢
    clear hg hgn
    refine (rrnum g s0 1 rfl _ hst0.out.rd hst0.out.small).mono ?_
    rintro e V1 ⟨⟨_, rfl⟩, hr1, hk1⟩
    have hstq := Hd.mk (hst0.out.step hk1 hr1 (rdN_rest _ _))
    clear hr1 hk1 hst0
    obtain ⟨a, ha⟩ : ∃ a, (rdN 1 s0).1 = a := ⟨_, rfl⟩
    obtain ⟨s1, hs1⟩ : ∃ s1, (rdN 1 s0).2 = s1 := ⟨_, rfl⟩
    rw [ha]
    rw [hs1] at hstq
    have Ha := Hd.mk (And.intro ha hs1)
    clear ha hs1
    obtain ⟨hd0, hd1, hd2, hd3, hd4, hd5, hd6⟩ := hstq.out.facts
    have hfz := hstq.out.loose 0
    have hst1 : Hd (Rm w (V1.setCell ⟨gn, 0, none⟩ (.int .i64 a)) gr g gn #[.int .i64 a, .int .i64 0, .int .i64 0, .string ⟨#[]⟩, .slice none 0 0, .slice none 0 0, .slice none 0 0] s1) := ⟨hstq.out.set 0 _⟩
    go_upto_region 6 with fail
    obtain ⟨V2, hV2⟩ : ∃ V2, V1.setCell ⟨gn, 0, none⟩ (.int .i64 a) = V2 := ⟨_, rfl⟩
    rw [hV2] at hst1 ⊢
    clear hV2 hstq hd0 hd1 hd2 hd3 hd4 hd5 hd6 hfz
    go_wp2_with fail
    refine (rrnum g s1 8 rfl _ hst1.out.rd hst1.out.small).mono ?_
    rintro e V1 ⟨⟨_, rfl⟩, hr1, hk1⟩
    have hstq := Hd.mk (hst1.out.step hk1 hr1 (rdN_rest _ _))
    clear hr1 hk1 hst1
    obtain ⟨bb, hbb⟩ : ∃ bb, (rdN 8 s1).1 = bb := ⟨_, rfl⟩
    obtain ⟨s2, hs2⟩ : ∃ s2, (rdN 8 s1).2 = s2 := ⟨_, rfl⟩
    rw [hbb]
    rw [hs2] at hstq
    have Hbb := Hd.mk (And.intro hbb hs2)
    clear hbb hs2
    obtain ⟨hd0, hd1, hd2, hd3, hd4, hd5, hd6⟩ := hstq.out.facts
    have hfz := hstq.out.loose 1
    have hst2 : Hd (Rm w (V1.setCell ⟨gn, 1, none⟩ (.int .i64 bb)) gr g gn #[.int .i64 a, .int .i64 bb, .int .i64 0, .string ⟨#[]⟩, .slice none 0 0, .slice none 0 0, .slice none 0 0] s2) := ⟨hstq.out.set 1 _⟩
    go_upto_region 7 with fail
    obtain ⟨V2, hV2⟩ : ∃ V2, V1.setCell ⟨gn, 1, none⟩ (.int .i64 bb) = V2 := ⟨_, rfl⟩
    rw [hV2] at hst2 ⊢
    clear hV2 hstq hd0 hd1 hd2 hd3 hd4 hd5 hd6 hfz
    go_wp2_with fail
    refine (rrnum g s2 4 rfl _ hst2.out.rd hst2.out.small).mono ?_
    rintro e V1 ⟨⟨_, rfl⟩, hr1, hk1⟩
    have hstq := Hd.mk (hst2.out.step hk1 hr1 (rdN_rest _ _))
    clear hr1 hk1 hst2
    obtain ⟨cc, hcc⟩ : ∃ cc, (rdN 4 s2).1 = cc := ⟨_, rfl⟩
    obtain ⟨s3, hs3⟩ : ∃ s3, (rdN 4 s2).2 = s3 := ⟨_, rfl⟩
    rw [hcc]
    rw [hs3] at hstq
    have Hcc := Hd.mk (And.intro hcc hs3)
    clear hcc hs3
    obtain ⟨hd0, hd1, hd2, hd3, hd4, hd5, hd6⟩ := hstq.out.facts
    have hfz := hstq.out.loose 2
    have hst3 : Hd (Rm w (V1.setCell ⟨gn, 2, none⟩ (.int .i64 cc)) gr g gn #[.int .i64 a, .int .i64 bb, .int .i64 cc, .string ⟨#[]⟩, .slice none 0 0, .slice none 0 0, .slice none 0 0] s3) := ⟨hstq.out.set 2 _⟩
    go_upto_region 8 with fail
    obtain ⟨V2, hV2⟩ : ∃ V2, V1.setCell ⟨gn, 2, none⟩ (.int .i64 cc) = V2 := ⟨_, rfl⟩
    rw [hV2] at hst3 ⊢
    clear hV2 hstq hd0 hd1 hd2 hd3 hd4 hd5 hd6 hfz
    go_wp2_with fail
    refine (rrnum g s3 2 rfl _ hst3.out.rd hst3.out.small).mono ?_
    rintro e V1 ⟨⟨_, rfl⟩, hr1, hk1⟩
    have hstq := Hd.mk (hst3.out.step hk1 hr1 (rdN_rest _ _))
    clear hr1 hk1 hst3
    obtain ⟨many, hmany⟩ : ∃ many, (rdN 2 s3).1 = many := ⟨_, rfl⟩
    obtain ⟨s4, hs4⟩ : ∃ s4, (rdN 2 s3).2 = s4 := ⟨_, rfl⟩
    rw [hmany]
    rw [hs4] at hstq
    have hmany0 : 0 ≤ many := by rw [← hmany]; exact rdN_nonneg _ _
    have Hmany := Hd.mk (And.intro hmany hs4)
    clear hmany hs4
    have hst4 := hstq
    clear hstq
    go_upto_region 9 with fail
    go_wp2_with fail
    refine (rrtext g s4 256 _ hst4.out.rd hst4.out.small).mono ?_
    rintro e V1 ⟨⟨_, rfl⟩, hr1, hk1⟩
    have hstq := Hd.mk (hst4.out.step hk1 hr1 (rdT_rest _ _))
    clear hr1 hk1 hst4
    obtain ⟨h, hh⟩ : ∃ h, (rdT 256 s4).1 = h := ⟨_, rfl⟩
    obtain ⟨s5, hs5⟩ : ∃ s5, (rdT 256 s4).2 = s5 := ⟨_, rfl⟩
    rw [hh]
    rw [hs5] at hstq
    have hhs : Hd (h.size ≤ 256) := ⟨by rw [← hh]; exact rdT_size _ _⟩
    have Hh := Hd.mk (And.intro hh hs5)
    clear hh hs5
    obtain ⟨hd0, hd1, hd2, hd3, hd4, hd5, hd6⟩ := hstq.out.facts
    have hfz := hstq.out.loose 3
    have hstE : Hd (Rm w (V1.setCell ⟨gn, 3, none⟩ (.string h)) gr g gn #[.int .i64 a, .int .i64 bb, .int .i64 cc, .string h, .slice none 0 0, .slice none 0 0, .slice none 0 0] s5) := ⟨hstq.out.set 3 _⟩
    go_upto_region 10 with fail
    obtain ⟨V2, hV2⟩ : ∃ V2, V1.setCell ⟨gn, 3, none⟩ (.string h) = V2 := ⟨_, rfl⟩
    rw [hV2] at hstE ⊢
    clear hV2 hstq hd0 hd1 hd2 hd3 hd4 hd5 hd6 hfz
    have hmb : Hd (many ≤ 65535) := ⟨by rw [← Hmany.out.1]; exact rdN2_le _⟩
    obtain ⟨hd0, hd1, hd2, hd3, hd4, hd5, hd6⟩ := hstE.out.facts
    by_cases hp : 0 < a
    · have hpd : decide (0 < a) = true := by simpa using hp
      have hp := Hd.mk hp
      go_wp2_with fail
      refine (rrnum g s5 4 rfl _ hstE.out.rd hstE.out.small).mono ?_
      rintro e V1 ⟨⟨_, rfl⟩, hr1, hk1⟩
      have hstq := Hd.mk (hstE.out.step hk1 hr1 (rdN_rest _ _))
      clear hr1 hk1 hstE hd0 hd1 hd2 hd3 hd4 hd5 hd6
      obtain ⟨k0, hk0⟩ : ∃ k0, (rdN 4 s5).1 = k0 := ⟨_, rfl⟩
      obtain ⟨s6, hs6⟩ : ∃ s6, (rdN 4 s5).2 = s6 := ⟨_, rfl⟩
      rw [hk0]
      rw [hs6] at hstq
      have HK := Hd.mk (And.intro hk0 hs6)
      clear hk0 hs6
      have hx0 : Hd (rdHead 256 (b.take 252, 0) = (⟨a, bb, cc, h, [], [], [k0]⟩, many, s6)) := ⟨by
        unfold rdHead
        simp only [HZ.out, Ha.out.1, Ha.out.2, Hbb.out.1, Hbb.out.2, Hcc.out.1, Hcc.out.2, Hmany.out.1, Hmany.out.2, Hh.out.1, Hh.out.2, HK.out.1, HK.out.2, if_pos (show 0 < a by have := hp.out; omega)]⟩
      obtain ⟨hd0, hd1, hd2, hd3, hd4, hd5, hd6⟩ := hstq.out.facts
      have hL00 : Hd (Lx V1 (gn + 1) ⟨a, bb, cc, h, [], [], []⟩ none 0 0 none 0 0 none 0 0) :=
        ⟨⟨Own.nil_ _ _ _ _ _, Own.nil_ _ _ _ _ _, Own.nil_ _ _ _ _ _, fun k hf => absurd rfl hf.1, by have := hhs.out; simp only; omega, fun k hk => by simp at hk, fun k hk => by simp at hk⟩⟩
      go_wp2_with (at_builtin; refine wp_push Try.EI rfl _ _ rfl rfl hL00.out.kids k0 _ ?c1 rfl ?c2 ?c3 ?c4 ?_)
      case c1 => rfl
      case c2 => omega
      case c3 => omega
      case c4 => have := hstq.out.lt; omega
      intro A6 c6 V2 ho' hk' hfo
      have hst2 := Hd.mk (hstq.out.grow hk' (fun k hf => absurd rfl hf.1))
      have hL2 := Hd.mk (hL00.out.addKid ho' hk')
      clear ho' hk' hfo hd0 hd1 hd2 hd3 hd4 hd5 hd6 hstq hL00
      have hfz := hst2.out.loose 6
      obtain ⟨hd0, hd1, hd2, hd3, hd4, hd5, hd6⟩ := hst2.out.facts
      have hst3 : Hd (Rm w (V2.setCell ⟨gn, 6, none⟩ (.slice A6 (0 + 1) c6)) gr g gn #[.int .i64 a, .int .i64 bb, .int .i64 cc, .string h, .slice none 0 0, .slice none 0 0, .slice A6 (0 + 1) c6] s6) := ⟨hst2.out.set 6 _⟩
      have hL0 : Hd (Lx (V2.setCell ⟨gn, 6, none⟩ (.slice A6 (0 + 1) c6)) (gn + 1) ⟨a, bb, cc, h, [], [], [k0]⟩ none 0 0 none 0 0 A6 (0 + 1) c6) := ⟨hL2.out.keep ((Keep.refl (fun k => k = gn) _).setCell (p := ⟨gn, 6, none⟩) (fun _ => rfl) _) (fun k e => .inl (by omega))⟩
      go_upto_region 13 with fail
      obtain ⟨V3, hV3⟩ : ∃ V3, V2.setCell ⟨gn, 6, none⟩ (.slice A6 (0 + 1) c6) = V3 := ⟨_, rfl⟩
      rw [hV3] at hst3 hL0 ⊢
      clear hV3 hst2 hL2 hfz hd0 hd1 hd2 hd3 hd4 hd5 hd6
      go_wp2_with fail
      skip
      go_loopg [10] many.toNat (fun k' v10 wr => ∃ (i : Nat) (V : World) (ks vs : List ByteArray) (kd : List Int) (sx : RSt) (A4 : Option Addr) (n4 c4 : Nat) (A5 : Option Addr) (n5 c5 : Nat) (A6 : Option Addr) (n6 c6 : Nat), V = wr ∧ Hd ((i : Int) ≤ many ∧ k' = many.toNat - i) ∧ v10 = .int .i64 i ∧
        Hd (rdEnts 256 i ((⟨a, bb, cc, h, [], [], [k0]⟩ : Nd), s6) = (⟨a, bb, cc, h, ks, vs, kd⟩, sx)) ∧ Hd (Rm w V gr g gn #[.int .i64 a, .int .i64 bb, .int .i64 cc, .string h, .slice A4 n4 c4, .slice A5 n5 c5, .slice A6 n6 c6] sx) ∧
        Hd (Lx V (gn + 1) ⟨a, bb, cc, h, ks, vs, kd⟩ A4 n4 c4 A5 n5 c5 A6 n6 c6) ∧ Hd (n4 ≤ i ∧ n5 ≤ i ∧ n6 ≤ i + 1))
      case atStart => exact ⟨0, _, _, _, _, _, _, _, _, _, _, _, _, _, _, rfl, ⟨by omega⟩, rfl, ⟨rfl⟩, hst3, hL0, ⟨by omega⟩⟩
      case round =>
        obtain ⟨i, V, ks, vs, kd, sx, A4, n4, c4, A5, n5, c5, A6, n6, c6, rfl, hi, rfl, hx, hst, hL, hn⟩ := hrel
        have herr := hst.out.err
        obtain ⟨er, her⟩ : ∃ er, sx.2 = er := ⟨_, rfl⟩
        rw [her] at herr
        have her := Hd.mk her
        by_cases hlt : (i : Int) < many
        · cases hz : (er == 0) with
          | true =>
            have hn4 : (n4 : Int) ≤ 70000 := by have := hn.out; have := hmb.out; omega
            have hn5 : (n5 : Int) ≤ 70000 := by have := hn.out; have := hmb.out; omega
            have hn6 : (n6 : Int) ≤ 70001 := by have := hn.out; have := hmb.out; omega
            have hib : (i : Int) ≤ 70000 := by have := hmb.out; omega
            go_wp2_with fail
            refine (rrtext g sx 256 _ hst.out.rd hst.out.small).mono ?_
            rintro e V1 ⟨⟨_, rfl⟩, hr1, hk1⟩
            have hst1 := Hd.mk (hst.out.step hk1 hr1 (rdT_rest _ _))
            have hL1 := Hd.mk (hL.out.keep hk1 (fun k e => .inl (by have := hst.out.ltn; omega)))
            clear hr1 hk1 hst hL herr
            obtain ⟨kk, hkk⟩ : ∃ kk, (rdT 256 sx).1 = kk := ⟨_, rfl⟩
            obtain ⟨s1x, hs1⟩ : ∃ s1x, (rdT 256 sx).2 = s1x := ⟨_, rfl⟩
            rw [hkk]
            rw [hs1] at hst1
            have hkz : Hd (kk.size ≤ 256) := ⟨by rw [← hkk]; exact rdT_size _ _⟩
            have hkk := Hd.mk hkk
            have hs1 := Hd.mk hs1
            obtain ⟨hd0, hd1, hd2, hd3, hd4, hd5, hd6⟩ := hst1.out.facts
            go_wp2_with (at_builtin; refine wp_push Try.ES rfl _ _ rfl rfl hL1.out.keys kk _ ?c1 rfl ?c2 ?c3 ?c4 ?_)
            case c1 => rfl
            case c2 => omega
            case c3 => omega
            case c4 => have := hst1.out.lt; omega
            intro A4' c4' V2 ho' hk' hfo
            have hst2 := Hd.mk (hst1.out.grow hk' (fun k hf => by have := hL1.out.keys.ge hf; omega))
            have hL2 := Hd.mk (hL1.out.addKey ho' hk' hfo hkz.out)
            clear ho' hk' hfo hd0 hd1 hd2 hd3 hd4 hd5 hd6 hst1 hL1
            have hfz := hst2.out.loose 4
            obtain ⟨hd0, hd1, hd2, hd3, hd4, hd5, hd6⟩ := hst2.out.facts
            have hst3 : Hd (Rm w (V2.setCell ⟨gn, 4, none⟩ (.slice A4' (n4 + 1) c4')) gr g gn #[.int .i64 a, .int .i64 bb, .int .i64 cc, .string h, .slice A4' (n4 + 1) c4', .slice A5 n5 c5, .slice A6 n6 c6] s1x) := ⟨hst2.out.set 4 _⟩
            have hL3 : Hd (Lx (V2.setCell ⟨gn, 4, none⟩ (.slice A4' (n4 + 1) c4')) (gn + 1) ⟨a, bb, cc, h, ks ++ [kk], vs, kd⟩ A4' (n4 + 1) c4' A5 n5 c5 A6 n6 c6) := ⟨hL2.out.keep ((Keep.refl (fun k => k = gn) _).setCell (p := ⟨gn, 4, none⟩) (fun _ => rfl) _) (fun k e => .inl (by omega))⟩
            go_upto_region 18 with fail
            obtain ⟨V3, hV3⟩ : ∃ V3, V2.setCell ⟨gn, 4, none⟩ (.slice A4' (n4 + 1) c4') = V3 := ⟨_, rfl⟩
            rw [hV3] at hst3 hL3 ⊢
            clear hV3 hst2 hL2 hfz hd0 hd1 hd2 hd3 hd4 hd5 hd6
            obtain ⟨hd0, hd1, hd2, hd3, hd4, hd5, hd6⟩ := hst3.out.facts
            go_wp2_with fail
            refine (rrnum g s1x 4 rfl _ hst3.out.rd hst3.out.small).mono ?_
            rintro e V4 ⟨⟨_, rfl⟩, hr1, hk1⟩
            have hst4 := Hd.mk (hst3.out.step hk1 hr1 (rdN_rest _ _))
            have hL4 := Hd.mk (hL3.out.keep hk1 (fun k e => .inl (by have := hst3.out.ltn; omega)))
            clear hr1 hk1 hst3 hL3 hd0 hd1 hd2 hd3 hd4 hd5 hd6
            obtain ⟨kv, hkv⟩ : ∃ kv, (rdN 4 s1x).1 = kv := ⟨_, rfl⟩
            obtain ⟨s2x, hs2⟩ : ∃ s2x, (rdN 4 s1x).2 = s2x := ⟨_, rfl⟩
            rw [hkv]
            rw [hs2] at hst4
            have hkv := Hd.mk hkv
            have hs2 := Hd.mk hs2
            obtain ⟨hd0, hd1, hd2, hd3, hd4, hd5, hd6⟩ := hst4.out.facts
            go_wp2_with (at_builtin; refine wp_push Try.EI rfl _ _ rfl rfl hL4.out.kids kv _ ?c1 rfl ?c2 ?c3 ?c4 ?_)
            case c1 => rfl
            case c2 => omega
            case c3 => omega
            case c4 => have := hst4.out.lt; omega
            intro A' c' V5 ho' hk' hfo
            have hst5 := Hd.mk (hst4.out.grow hk' (fun k hf => by have := hL4.out.kids.ge hf; omega))
            have hL5 := Hd.mk (hL4.out.addKid ho' hk')
            clear ho' hk' hfo hd0 hd1 hd2 hd3 hd4 hd5 hd6 hst4 hL4
            have hfz := hst5.out.loose 6
            obtain ⟨hd0, hd1, hd2, hd3, hd4, hd5, hd6⟩ := hst5.out.facts
            have hst6 : Hd (Rm w (V5.setCell ⟨gn, 6, none⟩ (.slice A' (n6 + 1) c')) gr g gn #[.int .i64 a, .int .i64 bb, .int .i64 cc, .string h, .slice A4' (n4 + 1) c4', .slice A5 n5 c5, .slice A' (n6 + 1) c'] s2x) := ⟨hst5.out.set 6 _⟩
            have hL6 : Hd (Lx (V5.setCell ⟨gn, 6, none⟩ (.slice A' (n6 + 1) c')) (gn + 1) ⟨a, bb, cc, h, ks ++ [kk], vs, kd ++ [kv]⟩ A4' (n4 + 1) c4' A5 n5 c5 A' (n6 + 1) c') := ⟨hL5.out.keep ((Keep.refl (fun k => k = gn) _).setCell (p := ⟨gn, 6, none⟩) (fun _ => rfl) _) (fun k e => .inl (by omega))⟩
            go_wp2_with fail
            go_roundg (many.toNat - (i + 1))
            case measure => have := hi.out; omega
            case rel =>
              refine ⟨i + 1, _, _, _, _, _, _, _, _, _, _, _, _, _, _, rfl, ⟨by have := hi.out; omega⟩, by go_num, ⟨?_⟩, hst6, hL6, ⟨by have := hn.out; omega⟩⟩
              rw [rdEnts, hx.out]
              simp only [rdEnt, if_pos (show 0 < a by have := hp.out; omega), hkk.out, hs1.out, hkv.out, hs2.out, addK]
          | false =>
            have hend : Hd (sx.2 ≠ 0 ∨ many ≤ i) := ⟨.inl (by rw [her.out]; simpa using hz)⟩
            have hpg : Hd (∀ m, pageOf b m → (⟨a, bb, cc, h, ks, vs, kd⟩ : Nd) = m ∧ sx.2 = 0) := ⟨fun m hm => ref_end hx0.out hx.out hi.out.1 hend.out hm⟩
            have hnd : Hd (NdAt V ⟨a, bb, cc, h, ks, vs, kd⟩ A4 n4 c4 A5 n5 c5 A6 n6 c6) := ⟨hL.out.ndAt (by have := hn.out; have := hi.out; have := hmb.out; omega) (by have := hn.out; have := hi.out; have := hmb.out; omega) (by have := hn.out; have := hi.out; have := hmb.out; omega)⟩
            have hnw : Hd (NdNew (gn + 1) ⟨a, bb, cc, h, ks, vs, kd⟩ A4 A5 A6) := ⟨⟨hL.out.keys.new (Nat.le_refl _), hL.out.vals.new (Nat.le_refl _), hL.out.kids.new (Nat.le_refl _)⟩⟩
            clear hL hx hend
            obtain ⟨hd0, hd1, hd2, hd3, hd4, hd5, hd6⟩ := hst.out.facts
            go_wp2_with fail
            refine (refencode_any _ _ _ _ _ _ _ _ _ _ V hnd.out).mono ?_
            rintro e V5 ⟨hk5, hyes, hnot⟩
            have hst5 := Hd.mk (hst.out.grow hk5 (fun _ h => h.elim))
            have hnd5 := Hd.mk (hnd.out.ext hk5)
            clear hd0 hd1 hd2 hd3 hd4 hd5 hd6 herr hst hnd hk5
            have herr := hst5.out.err
            rw [her.out] at herr
            obtain ⟨hd0, hd1, hd2, hd3, hd4, hd5, hd6⟩ := hst5.out.facts
            obtain ⟨hp0, hp1, hp2, hp3, hp4, hp5, hp6, hf0, hf1, hf2, hf3, hf4, hf5, hf6⟩ := z_facts hst5.out.res
            have hK5 := Hd.mk hst5.out.keep
            have hbr := Hd.mk hst5.out.res
            cases hzz : (er != 0) with
            | true =>
              have hno : Hd (∀ m, ¬ pageOf b m) := ⟨fun m hm => by have := (hpg.out m hm).2; rw [her.out] at this; rw [this] at hzz; cases hzz⟩
              clear hpg
              cases hok : okB ⟨a, bb, cc, h, ks, vs, kd⟩ with
              | false =>
                obtain rfl := hnot hok
                clear hok hnot hyes
                go_wp2_with fail
                obtain ⟨V9, hV9⟩ : ∃ V9, ((((((V5.setCell ⟨gr, 0, none⟩ (.int .i64 0)).setCell ⟨gr, 1, none⟩ (.int .i64 0)).setCell ⟨gr, 2, none⟩ (.int .i64 0)).setCell ⟨gr, 3, none⟩ (.string ⟨#[]⟩)).setCell ⟨gr, 4, none⟩ (.slice none 0 0)).setCell ⟨gr, 5, none⟩ (.slice none 0 0)).setCell ⟨gr, 6, none⟩ (.slice none 0 0) = V9 := ⟨_, rfl⟩
                have hch := chain7 hbr.out _ _ _ _ _ _ _ hV9
                rw [hV9]
                clear hV9 hp0 hp1 hp2 hp3 hp4 hp5 hp6 hf0 hf1 hf2 hf3 hf4 hf5 hf6
                obtain ⟨he0, he1, he2, he3, he4, he5, he6⟩ := nd_facts hch.1
                have hk9 := Hd.mk hch.2
                clear hch
                refine bodyPost_ret (v := .tuple #[ndV zNd none 0 0 none 0 0 none 0 0, .int .i64 60]) (by simp [results, Try.results33, go_sem, he0, he1, he2, he3, he4, he5, he6, zNd]) rfl ?_
                exact hR.out _ _ (.no hno.out (hK5.out.trans hk9.out (fun k hk e => by have := hgr.out; omega)))
              | true =>
                obtain ⟨A7, c7, rfl, ho7⟩ := hyes hok
                clear hok hnot ho7 hyes
                go_wp2_with fail
                obtain ⟨V9, hV9⟩ : ∃ V9, ((((((V5.setCell ⟨gr, 0, none⟩ (.int .i64 0)).setCell ⟨gr, 1, none⟩ (.int .i64 0)).setCell ⟨gr, 2, none⟩ (.int .i64 0)).setCell ⟨gr, 3, none⟩ (.string ⟨#[]⟩)).setCell ⟨gr, 4, none⟩ (.slice none 0 0)).setCell ⟨gr, 5, none⟩ (.slice none 0 0)).setCell ⟨gr, 6, none⟩ (.slice none 0 0) = V9 := ⟨_, rfl⟩
                have hch := chain7 hbr.out _ _ _ _ _ _ _ hV9
                rw [hV9]
                clear hV9 hp0 hp1 hp2 hp3 hp4 hp5 hp6 hf0 hf1 hf2 hf3 hf4 hf5 hf6
                obtain ⟨he0, he1, he2, he3, he4, he5, he6⟩ := nd_facts hch.1
                have hk9 := Hd.mk hch.2
                clear hch
                refine bodyPost_ret (v := .tuple #[ndV zNd none 0 0 none 0 0 none 0 0, .int .i64 60]) (by simp [results, Try.results33, go_sem, he0, he1, he2, he3, he4, he5, he6, zNd]) rfl ?_
                exact hR.out _ _ (.no hno.out (hK5.out.trans hk9.out (fun k hk e => by have := hgr.out; omega)))
            | false =>
              cases hok : okB ⟨a, bb, cc, h, ks, vs, kd⟩ with
              | false =>
                obtain rfl := hnot hok
                have hno : Hd (∀ m, ¬ pageOf b m) := ⟨fun m hm => by have := (hpg.out m hm).1; rw [this] at hok; rw [hm.1] at hok; cases hok⟩
                clear hok hnot hyes hpg
                go_wp2_with fail
                obtain ⟨V9, hV9⟩ : ∃ V9, ((((((V5.setCell ⟨gr, 0, none⟩ (.int .i64 0)).setCell ⟨gr, 1, none⟩ (.int .i64 0)).setCell ⟨gr, 2, none⟩ (.int .i64 0)).setCell ⟨gr, 3, none⟩ (.string ⟨#[]⟩)).setCell ⟨gr, 4, none⟩ (.slice none 0 0)).setCell ⟨gr, 5, none⟩ (.slice none 0 0)).setCell ⟨gr, 6, none⟩ (.slice none 0 0) = V9 := ⟨_, rfl⟩
                have hch := chain7 hbr.out _ _ _ _ _ _ _ hV9
                rw [hV9]
                clear hV9 hp0 hp1 hp2 hp3 hp4 hp5 hp6 hf0 hf1 hf2 hf3 hf4 hf5 hf6
                obtain ⟨he0, he1, he2, he3, he4, he5, he6⟩ := nd_facts hch.1
                have hk9 := Hd.mk hch.2
                clear hch
                refine bodyPost_ret (v := .tuple #[ndV zNd none 0 0 none 0 0 none 0 0, .int .i64 60]) (by simp [results, Try.results33, go_sem, he0, he1, he2, he3, he4, he5, he6, zNd]) rfl ?_
                exact hR.out _ _ (.no hno.out (hK5.out.trans hk9.out (fun k hk e => by have := hgr.out; omega)))
              | true =>
                obtain ⟨A7, c7, rfl, ho7⟩ := hyes hok
                have ho7 := Hd.mk ho7
                have hok := Hd.mk hok
                clear hyes hnot
                obtain ⟨S1, hS1⟩ : ∃ S, Hd (bsStr (encB ⟨a, bb, cc, h, ks, vs, kd⟩) = S) := ⟨_, ⟨rfl⟩⟩
                obtain ⟨S2, hS2⟩ : ∃ S, Hd (bsStr b = S) := ⟨_, ⟨rfl⟩⟩
                have hcv1 := run_conv8 (P := Try.prog) (dst := 9) Try.underlying31 Try.underlying5 Try.underlying9 ho7.out.sl
                have hcv2 := run_conv8 (P := Try.prog) (dst := 9) Try.underlying31 Try.underlying5 Try.underlying9 (HS.out.ext hK5.out)
                rw [hS1.out] at hcv1
                rw [hS2.out] at hcv2
                cases hq : (S1.toList == S2.toList) with
                | true =>
                  have heq : Hd (encB ⟨a, bb, cc, h, ks, vs, kd⟩ = b) := ⟨by rw [← hS1.out, ← hS2.out, bsStr_toList, bsStr_toList] at hq; simpa using hq⟩
                  go_wp2_with fail
                  obtain ⟨V9, hV9⟩ : ∃ V9, ((((((V5.setCell ⟨gr, 0, none⟩ (.int .i64 a)).setCell ⟨gr, 1, none⟩ (.int .i64 bb)).setCell ⟨gr, 2, none⟩ (.int .i64 cc)).setCell ⟨gr, 3, none⟩ (.string h)).setCell ⟨gr, 4, none⟩ (.slice A4 n4 c4)).setCell ⟨gr, 5, none⟩ (.slice A5 n5 c5)).setCell ⟨gr, 6, none⟩ (.slice A6 n6 c6) = V9 := ⟨_, rfl⟩
                  have hch := chain7 hbr.out _ _ _ _ _ _ _ hV9
                  rw [hV9]
                  clear hV9 hp0 hp1 hp2 hp3 hp4 hp5 hp6 hf0 hf1 hf2 hf3 hf4 hf5 hf6 hd0 hd1 hd2 hd3 hd4 hd5 hd6
                  obtain ⟨he0, he1, he2, he3, he4, he5, he6⟩ := nd_facts hch.1
                  have hk9 := Hd.mk hch.2
                  clear hch
                  refine bodyPost_ret (v := .tuple #[.agg #[.int .i64 a, .int .i64 bb, .int .i64 cc, .string h, .slice A4 n4 c4, .slice A5 n5 c5, .slice A6 n6 c6], .int .i64 0]) (by simp [results, Try.results33, go_sem, he0, he1, he2, he3, he4, he5, he6]) rfl ?_
                  have hkk : Ext w V9 := hK5.out.trans hk9.out (fun k hk e => by have := hgr.out; omega)
                  refine hR.out _ _ ⟨⟨a, bb, cc, h, ks, vs, kd⟩, 0, A4, n4, c4, A5, n5, c5, A6, n6, c6, rfl, ?_, hkk, .yes ⟨hok.out, ?_, heq.out⟩⟩
                  · exact hnd5.out.keepN hnw.out hk9.out (fun k e => by have := hst5.out.ltg; have := hst5.out.ltn; omega)
                  · have := hnd5.out.b4; have := hnd5.out.keys.len; omega
                | false =>
                  have hno : Hd (∀ m, ¬ pageOf b m) := ⟨fun m hm => by
                    have h1 := (hpg.out m hm).1
                    rw [← hS1.out, ← hS2.out, bsStr_toList, bsStr_toList, h1, hm.2.2] at hq
                    simp at hq⟩
                  clear hpg
                  go_wp2_with fail
                  obtain ⟨V9, hV9⟩ : ∃ V9, ((((((V5.setCell ⟨gr, 0, none⟩ (.int .i64 0)).setCell ⟨gr, 1, none⟩ (.int .i64 0)).setCell ⟨gr, 2, none⟩ (.int .i64 0)).setCell ⟨gr, 3, none⟩ (.string ⟨#[]⟩)).setCell ⟨gr, 4, none⟩ (.slice none 0 0)).setCell ⟨gr, 5, none⟩ (.slice none 0 0)).setCell ⟨gr, 6, none⟩ (.slice none 0 0) = V9 := ⟨_, rfl⟩
                  have hch := chain7 hbr.out _ _ _ _ _ _ _ hV9
                  rw [hV9]
                  clear hV9 hp0 hp1 hp2 hp3 hp4 hp5 hp6 hf0 hf1 hf2 hf3 hf4 hf5 hf6
                  obtain ⟨he0, he1, he2, he3, he4, he5, he6⟩ := nd_facts hch.1
                  have hk9 := Hd.mk hch.2
                  clear hch
                  refine bodyPost_ret (v := .tuple #[ndV zNd none 0 0 none 0 0 none 0 0, .int .i64 60]) (by simp [results, Try.results33, go_sem, he0, he1, he2, he3, he4, he5, he6, zNd]) rfl ?_
                  exact hR.out _ _ (.no hno.out (hK5.out.trans hk9.out (fun k hk e => by have := hgr.out; omega)))
        · have hend : Hd (sx.2 ≠ 0 ∨ many ≤ i) := ⟨.inr (by omega)⟩
          have hpg : Hd (∀ m, pageOf b m → (⟨a, bb, cc, h, ks, vs, kd⟩ : Nd) = m ∧ sx.2 = 0) := ⟨fun m hm => ref_end hx0.out hx.out hi.out.1 hend.out hm⟩
          have hnd : Hd (NdAt V ⟨a, bb, cc, h, ks, vs, kd⟩ A4 n4 c4 A5 n5 c5 A6 n6 c6) := ⟨hL.out.ndAt (by have := hn.out; have := hi.out; have := hmb.out; omega) (by have := hn.out; have := hi.out; have := hmb.out; omega) (by have := hn.out; have := hi.out; have := hmb.out; omega)⟩
          have hnw : Hd (NdNew (gn + 1) ⟨a, bb, cc, h, ks, vs, kd⟩ A4 A5 A6) := ⟨⟨hL.out.keys.new (Nat.le_refl _), hL.out.vals.new (Nat.le_refl _), hL.out.kids.new (Nat.le_refl _)⟩⟩
          clear hL hx hend
          obtain ⟨hd0, hd1, hd2, hd3, hd4, hd5, hd6⟩ := hst.out.facts
          go_wp2_with fail
          refine (refencode_any _ _ _ _ _ _ _ _ _ _ V hnd.out).mono ?_
          rintro e V5 ⟨hk5, hyes, hnot⟩
          have hst5 := Hd.mk (hst.out.grow hk5 (fun _ h => h.elim))
          have hnd5 := Hd.mk (hnd.out.ext hk5)
          clear hd0 hd1 hd2 hd3 hd4 hd5 hd6 herr hst hnd hk5
          have herr := hst5.out.err
          rw [her.out] at herr
          obtain ⟨hd0, hd1, hd2, hd3, hd4, hd5, hd6⟩ := hst5.out.facts
          obtain ⟨hp0, hp1, hp2, hp3, hp4, hp5, hp6, hf0, hf1, hf2, hf3, hf4, hf5, hf6⟩ := z_facts hst5.out.res
          have hK5 := Hd.mk hst5.out.keep
          have hbr := Hd.mk hst5.out.res
          cases hzz : (er != 0) with
          | true =>
            have hno : Hd (∀ m, ¬ pageOf b m) := ⟨fun m hm => by have := (hpg.out m hm).2; rw [her.out] at this; rw [this] at hzz; cases hzz⟩
            clear hpg
            cases hok : okB ⟨a, bb, cc, h, ks, vs, kd⟩ with
            | false =>
              obtain rfl := hnot hok
              clear hok hnot hyes
              go_wp2_with fail
              obtain ⟨V9, hV9⟩ : ∃ V9, ((((((V5.setCell ⟨gr, 0, none⟩ (.int .i64 0)).setCell ⟨gr, 1, none⟩ (.int .i64 0)).setCell ⟨gr, 2, none⟩ (.int .i64 0)).setCell ⟨gr, 3, none⟩ (.string ⟨#[]⟩)).setCell ⟨gr, 4, none⟩ (.slice none 0 0)).setCell ⟨gr, 5, none⟩ (.slice none 0 0)).setCell ⟨gr, 6, none⟩ (.slice none 0 0) = V9 := ⟨_, rfl⟩
              have hch := chain7 hbr.out _ _ _ _ _ _ _ hV9
              rw [hV9]
              clear hV9 hp0 hp1 hp2 hp3 hp4 hp5 hp6 hf0 hf1 hf2 hf3 hf4 hf5 hf6
              obtain ⟨he0, he1, he2, he3, he4, he5, he6⟩ := nd_facts hch.1
              have hk9 := Hd.mk hch.2
              clear hch
              refine bodyPost_ret (v := .tuple #[ndV zNd none 0 0 none 0 0 none 0 0, .int .i64 60]) (by simp [results, Try.results33, go_sem, he0, he1, he2, he3, he4, he5, he6, zNd]) rfl ?_
              exact hR.out _ _ (.no hno.out (hK5.out.trans hk9.out (fun k hk e => by have := hgr.out; omega)))
            | true =>
              obtain ⟨A7, c7, rfl, ho7⟩ := hyes hok
              clear hok hnot ho7 hyes
              go_wp2_with fail
              obtain ⟨V9, hV9⟩ : ∃ V9, ((((((V5.setCell ⟨gr, 0, none⟩ (.int .i64 0)).setCell ⟨gr, 1, none⟩ (.int .i64 0)).setCell ⟨gr, 2, none⟩ (.int .i64 0)).setCell ⟨gr, 3, none⟩ (.string ⟨#[]⟩)).setCell ⟨gr, 4, none⟩ (.slice none 0 0)).setCell ⟨gr, 5, none⟩ (.slice none 0 0)).setCell ⟨gr, 6, none⟩ (.slice none 0 0) = V9 := ⟨_, rfl⟩
              have hch := chain7 hbr.out _ _ _ _ _ _ _ hV9
              rw [hV9]
              clear hV9 hp0 hp1 hp2 hp3 hp4 hp5 hp6 hf0 hf1 hf2 hf3 hf4 hf5 hf6
              obtain ⟨he0, he1, he2, he3, he4, he5, he6⟩ := nd_facts hch.1
              have hk9 := Hd.mk hch.2
              clear hch
              refine bodyPost_ret (v := .tuple #[ndV zNd none 0 0 none 0 0 none 0 0, .int .i64 60]) (by simp [results, Try.results33, go_sem, he0, he1, he2, he3, he4, he5, he6, zNd]) rfl ?_
              exact hR.out _ _ (.no hno.out (hK5.out.trans hk9.out (fun k hk e => by have := hgr.out; omega)))
          | false =>
            cases hok : okB ⟨a, bb, cc, h, ks, vs, kd⟩ with
            | false =>
              obtain rfl := hnot hok
              have hno : Hd (∀ m, ¬ pageOf b m) := ⟨fun m hm => by have := (hpg.out m hm).1; rw [this] at hok; rw [hm.1] at hok; cases hok⟩
              clear hok hnot hyes hpg
              go_wp2_with fail
              obtain ⟨V9, hV9⟩ : ∃ V9, ((((((V5.setCell ⟨gr, 0, none⟩ (.int .i64 0)).setCell ⟨gr, 1, none⟩ (.int .i64 0)).setCell ⟨gr, 2, none⟩ (.int .i64 0)).setCell ⟨gr, 3, none⟩ (.string ⟨#[]⟩)).setCell ⟨gr, 4, none⟩ (.slice none 0 0)).setCell ⟨gr, 5, none⟩ (.slice none 0 0)).setCell ⟨gr, 6, none⟩ (.slice none 0 0) = V9 := ⟨_, rfl⟩
              have hch := chain7 hbr.out _ _ _ _ _ _ _ hV9
              rw [hV9]
              clear hV9 hp0 hp1 hp2 hp3 hp4 hp5 hp6 hf0 hf1 hf2 hf3 hf4 hf5 hf6
              obtain ⟨he0, he1, he2, he3, he4, he5, he6⟩ := nd_facts hch.1
              have hk9 := Hd.mk hch.2
              clear hch
              refine bodyPost_ret (v := .tuple #[ndV zNd none 0 0 none 0 0 none 0 0, .int .i64 60]) (by simp [results, Try.results33, go_sem, he0, he1, he2, he3, he4, he5, he6, zNd]) rfl ?_
              exact hR.out _ _ (.no hno.out (hK5.out.trans hk9.out (fun k hk e => by have := hgr.out; omega)))
            | true =>
              obtain ⟨A7, c7, rfl, ho7⟩ := hyes hok
              have ho7 := Hd.mk ho7
              have hok := Hd.mk hok
              clear hyes hnot
              obtain ⟨S1, hS1⟩ : ∃ S, Hd (bsStr (encB ⟨a, bb, cc, h, ks, vs, kd⟩) = S) := ⟨_, ⟨rfl⟩⟩
              obtain ⟨S2, hS2⟩ : ∃ S, Hd (bsStr b = S) := ⟨_, ⟨rfl⟩⟩
              have hcv1 := run_conv8 (P := Try.prog) (dst := 9) Try.underlying31 Try.underlying5 Try.underlying9 ho7.out.sl
              have hcv2 := run_conv8 (P := Try.prog) (dst := 9) Try.underlying31 Try.underlying5 Try.underlying9 (HS.out.ext hK5.out)
              rw [hS1.out] at hcv1
              rw [hS2.out] at hcv2
              cases hq : (S1.toList == S2.toList) with
              | true =>
                have heq : Hd (encB ⟨a, bb, cc, h, ks, vs, kd⟩ = b) := ⟨by rw [← hS1.out, ← hS2.out, bsStr_toList, bsStr_toList] at hq; simpa using hq⟩
                go_wp2_with fail
                obtain ⟨V9, hV9⟩ : ∃ V9, ((((((V5.setCell ⟨gr, 0, none⟩ (.int .i64 a)).setCell ⟨gr, 1, none⟩ (.int .i64 bb)).setCell ⟨gr, 2, none⟩ (.int .i64 cc)).setCell ⟨gr, 3, none⟩ (.string h)).setCell ⟨gr, 4, none⟩ (.slice A4 n4 c4)).setCell ⟨gr, 5, none⟩ (.slice A5 n5 c5)).setCell ⟨gr, 6, none⟩ (.slice A6 n6 c6) = V9 := ⟨_, rfl⟩
                have hch := chain7 hbr.out _ _ _ _ _ _ _ hV9
                rw [hV9]
                clear hV9 hp0 hp1 hp2 hp3 hp4 hp5 hp6 hf0 hf1 hf2 hf3 hf4 hf5 hf6 hd0 hd1 hd2 hd3 hd4 hd5 hd6
                obtain ⟨he0, he1, he2, he3, he4, he5, he6⟩ := nd_facts hch.1
                have hk9 := Hd.mk hch.2
                clear hch
                refine bodyPost_ret (v := .tuple #[.agg #[.int .i64 a, .int .i64 bb, .int .i64 cc, .string h, .slice A4 n4 c4, .slice A5 n5 c5, .slice A6 n6 c6], .int .i64 0]) (by simp [results, Try.results33, go_sem, he0, he1, he2, he3, he4, he5, he6]) rfl ?_
                have hkk : Ext w V9 := hK5.out.trans hk9.out (fun k hk e => by have := hgr.out; omega)
                refine hR.out _ _ ⟨⟨a, bb, cc, h, ks, vs, kd⟩, 0, A4, n4, c4, A5, n5, c5, A6, n6, c6, rfl, ?_, hkk, .yes ⟨hok.out, ?_, heq.out⟩⟩
                · exact hnd5.out.keepN hnw.out hk9.out (fun k e => by have := hst5.out.ltg; have := hst5.out.ltn; omega)
                · have := hnd5.out.b4; have := hnd5.out.keys.len; omega
              | false =>
                have hno : Hd (∀ m, ¬ pageOf b m) := ⟨fun m hm => by
                  have h1 := (hpg.out m hm).1
                  rw [← hS1.out, ← hS2.out, bsStr_toList, bsStr_toList, h1, hm.2.2] at hq
                  simp at hq⟩
                clear hpg
                go_wp2_with fail
                obtain ⟨V9, hV9⟩ : ∃ V9, ((((((V5.setCell ⟨gr, 0, none⟩ (.int .i64 0)).setCell ⟨gr, 1, none⟩ (.int .i64 0)).setCell ⟨gr, 2, none⟩ (.int .i64 0)).setCell ⟨gr, 3, none⟩ (.string ⟨#[]⟩)).setCell ⟨gr, 4, none⟩ (.slice none 0 0)).setCell ⟨gr, 5, none⟩ (.slice none 0 0)).setCell ⟨gr, 6, none⟩ (.slice none 0 0) = V9 := ⟨_, rfl⟩
                have hch := chain7 hbr.out _ _ _ _ _ _ _ hV9
                rw [hV9]
                clear hV9 hp0 hp1 hp2 hp3 hp4 hp5 hp6 hf0 hf1 hf2 hf3 hf4 hf5 hf6
                obtain ⟨he0, he1, he2, he3, he4, he5, he6⟩ := nd_facts hch.1
                have hk9 := Hd.mk hch.2
                clear hch
                refine bodyPost_ret (v := .tuple #[ndV zNd none 0 0 none 0 0 none 0 0, .int .i64 60]) (by simp [results, Try.results33, go_sem, he0, he1, he2, he3, he4, he5, he6, zNd]) rfl ?_
                exact hR.out _ _ (.no hno.out (hK5.out.trans hk9.out (fun k hk e => by have := hgr.out; omega)))
    · have hpd : decide (0 < a) = false := by simpa using hp
      have hp := Hd.mk hp
      have hx0 : Hd (rdHead 256 (b.take 252, 0) = (⟨a, bb, cc, h, [], [], []⟩, many, s5)) := ⟨by
        unfold rdHead
        simp only [HZ.out, Ha.out.1, Ha.out.2, Hbb.out.1, Hbb.out.2, Hcc.out.1, Hcc.out.2, Hmany.out.1, Hmany.out.2, Hh.out.1, Hh.out.2, if_neg (show ¬ 0 < a by have := hp.out; omega)]⟩
      have hL0 : Hd (Lx V2 (gn + 1) ⟨a, bb, cc, h, [], [], []⟩ none 0 0 none 0 0 none 0 0) :=
        ⟨⟨Own.nil_ _ _ _ _ _, Own.nil_ _ _ _ _ _, Own.nil_ _ _ _ _ _, fun k hf => absurd rfl hf.1, by have := hhs.out; simp only; omega, fun k hk => by simp at hk, fun k hk => by simp at hk⟩⟩
      go_wp2_with fail
      clear hd0 hd1 hd2 hd3 hd4 hd5 hd6
      skip
      go_loopg [10] many.toNat (fun k' v10 wr => ∃ (i : Nat) (V : World) (ks vs : List ByteArray) (kd : List Int) (sx : RSt) (A4 : Option Addr) (n4 c4 : Nat) (A5 : Option Addr) (n5 c5 : Nat) (A6 : Option Addr) (n6 c6 : Nat), V = wr ∧ Hd ((i : Int) ≤ many ∧ k' = many.toNat - i) ∧ v10 = .int .i64 i ∧
        Hd (rdEnts 256 i ((⟨a, bb, cc, h, [], [], []⟩ : Nd), s5) = (⟨a, bb, cc, h, ks, vs, kd⟩, sx)) ∧ Hd (Rm w V gr g gn #[.int .i64 a, .int .i64 bb, .int .i64 cc, .string h, .slice A4 n4 c4, .slice A5 n5 c5, .slice A6 n6 c6] sx) ∧
        Hd (Lx V (gn + 1) ⟨a, bb, cc, h, ks, vs, kd⟩ A4 n4 c4 A5 n5 c5 A6 n6 c6) ∧ Hd (n4 ≤ i ∧ n5 ≤ i ∧ n6 ≤ i + 1))
      case atStart => exact ⟨0, _, _, _, _, _, _, _, _, _, _, _, _, _, _, rfl, ⟨by omega⟩, rfl, ⟨rfl⟩, hstE, hL0, ⟨by omega⟩⟩
      case round =>
        obtain ⟨i, V, ks, vs, kd, sx, A4, n4, c4, A5, n5, c5, A6, n6, c6, rfl, hi, rfl, hx, hst, hL, hn⟩ := hrel
        have herr := hst.out.err
        obtain ⟨er, her⟩ : ∃ er, sx.2 = er := ⟨_, rfl⟩
        rw [her] at herr
        have her := Hd.mk her
        by_cases hlt : (i : Int) < many
        · cases hz : (er == 0) with
          | true =>
            have hn4 : (n4 : Int) ≤ 70000 := by have := hn.out; have := hmb.out; omega
            have hn5 : (n5 : Int) ≤ 70000 := by have := hn.out; have := hmb.out; omega
            have hn6 : (n6 : Int) ≤ 70001 := by have := hn.out; have := hmb.out; omega
            have hib : (i : Int) ≤ 70000 := by have := hmb.out; omega
            go_wp2_with fail
            refine (rrtext g sx 256 _ hst.out.rd hst.out.small).mono ?_
            rintro e V1 ⟨⟨_, rfl⟩, hr1, hk1⟩
            have hst1 := Hd.mk (hst.out.step hk1 hr1 (rdT_rest _ _))
            have hL1 := Hd.mk (hL.out.keep hk1 (fun k e => .inl (by have := hst.out.ltn; omega)))
            clear hr1 hk1 hst hL herr
            obtain ⟨kk, hkk⟩ : ∃ kk, (rdT 256 sx).1 = kk := ⟨_, rfl⟩
            obtain ⟨s1x, hs1⟩ : ∃ s1x, (rdT 256 sx).2 = s1x := ⟨_, rfl⟩
            rw [hkk]
            rw [hs1] at hst1
            have hkz : Hd (kk.size ≤ 256) := ⟨by rw [← hkk]; exact rdT_size _ _⟩
            have hkk := Hd.mk hkk
            have hs1 := Hd.mk hs1
            obtain ⟨hd0, hd1, hd2, hd3, hd4, hd5, hd6⟩ := hst1.out.facts
            go_wp2_with (at_builtin; refine wp_push Try.ES rfl _ _ rfl rfl hL1.out.keys kk _ ?c1 rfl ?c2 ?c3 ?c4 ?_)
            case c1 => rfl
            case c2 => omega
            case c3 => omega
            case c4 => have := hst1.out.lt; omega
            intro A4' c4' V2 ho' hk' hfo
            have hst2 := Hd.mk (hst1.out.grow hk' (fun k hf => by have := hL1.out.keys.ge hf; omega))
            have hL2 := Hd.mk (hL1.out.addKey ho' hk' hfo hkz.out)
            clear ho' hk' hfo hd0 hd1 hd2 hd3 hd4 hd5 hd6 hst1 hL1
            have hfz := hst2.out.loose 4
            obtain ⟨hd0, hd1, hd2, hd3, hd4, hd5, hd6⟩ := hst2.out.facts
            have hst3 : Hd (Rm w (V2.setCell ⟨gn, 4, none⟩ (.slice A4' (n4 + 1) c4')) gr g gn #[.int .i64 a, .int .i64 bb, .int .i64 cc, .string h, .slice A4' (n4 + 1) c4', .slice A5 n5 c5, .slice A6 n6 c6] s1x) := ⟨hst2.out.set 4 _⟩
            have hL3 : Hd (Lx (V2.setCell ⟨gn, 4, none⟩ (.slice A4' (n4 + 1) c4')) (gn + 1) ⟨a, bb, cc, h, ks ++ [kk], vs, kd⟩ A4' (n4 + 1) c4' A5 n5 c5 A6 n6 c6) := ⟨hL2.out.keep ((Keep.refl (fun k => k = gn) _).setCell (p := ⟨gn, 4, none⟩) (fun _ => rfl) _) (fun k e => .inl (by omega))⟩
            go_upto_region 18 with fail
            obtain ⟨V3, hV3⟩ : ∃ V3, V2.setCell ⟨gn, 4, none⟩ (.slice A4' (n4 + 1) c4') = V3 := ⟨_, rfl⟩
            rw [hV3] at hst3 hL3 ⊢
            clear hV3 hst2 hL2 hfz hd0 hd1 hd2 hd3 hd4 hd5 hd6
            obtain ⟨hd0, hd1, hd2, hd3, hd4, hd5, hd6⟩ := hst3.out.facts
            go_wp2_with fail
            refine (rrtext g s1x 256 _ hst3.out.rd hst3.out.small).mono ?_
            rintro e V4 ⟨⟨_, rfl⟩, hr1, hk1⟩
            have hst4 := Hd.mk (hst3.out.step hk1 hr1 (rdT_rest _ _))
            have hL4 := Hd.mk (hL3.out.keep hk1 (fun k e => .inl (by have := hst3.out.ltn; omega)))
            clear hr1 hk1 hst3 hL3 hd0 hd1 hd2 hd3 hd4 hd5 hd6
            obtain ⟨kv, hkv⟩ : ∃ kv, (rdT 256 s1x).1 = kv := ⟨_, rfl⟩
            obtain ⟨s2x, hs2⟩ : ∃ s2x, (rdT 256 s1x).2 = s2x := ⟨_, rfl⟩
            rw [hkv]
            rw [hs2] at hst4
            have hkvz : Hd (kv.size ≤ 256) := ⟨by rw [← hkv]; exact rdT_size _ _⟩
            have hkv := Hd.mk hkv
            have hs2 := Hd.mk hs2
            obtain ⟨hd0, hd1, hd2, hd3, hd4, hd5, hd6⟩ := hst4.out.facts
            go_wp2_with (at_builtin; refine wp_push Try.ES rfl _ _ rfl rfl hL4.out.vals kv _ ?c1 rfl ?c2 ?c3 ?c4 ?_)
            case c1 => rfl
            case c2 => omega
            case c3 => omega
            case c4 => have := hst4.out.lt; omega
            intro A' c' V5 ho' hk' hfo
            have hst5 := Hd.mk (hst4.out.grow hk' (fun k hf => by have := hL4.out.vals.ge hf; omega))
            have hL5 := Hd.mk (hL4.out.addVal ho' hk' hfo hkvz.out)
            clear ho' hk' hfo hd0 hd1 hd2 hd3 hd4 hd5 hd6 hst4 hL4
            have hfz := hst5.out.loose 5
            obtain ⟨hd0, hd1, hd2, hd3, hd4, hd5, hd6⟩ := hst5.out.facts
            have hst6 : Hd (Rm w (V5.setCell ⟨gn, 5, none⟩ (.slice A' (n5 + 1) c')) gr g gn #[.int .i64 a, .int .i64 bb, .int .i64 cc, .string h, .slice A4' (n4 + 1) c4', .slice A' (n5 + 1) c', .slice A6 n6 c6] s2x) := ⟨hst5.out.set 5 _⟩
            have hL6 : Hd (Lx (V5.setCell ⟨gn, 5, none⟩ (.slice A' (n5 + 1) c')) (gn + 1) ⟨a, bb, cc, h, ks ++ [kk], vs ++ [kv], kd⟩ A4' (n4 + 1) c4' A' (n5 + 1) c' A6 n6 c6) := ⟨hL5.out.keep ((Keep.refl (fun k => k = gn) _).setCell (p := ⟨gn, 5, none⟩) (fun _ => rfl) _) (fun k e => .inl (by omega))⟩
            go_wp2_with fail
            go_roundg (many.toNat - (i + 1))
            case measure => have := hi.out; omega
            case rel =>
              refine ⟨i + 1, _, _, _, _, _, _, _, _, _, _, _, _, _, _, rfl, ⟨by have := hi.out; omega⟩, by go_num, ⟨?_⟩, hst6, hL6, ⟨by have := hn.out; omega⟩⟩
              rw [rdEnts, hx.out]
              simp only [rdEnt, if_neg (show ¬ 0 < a by have := hp.out; omega), hkk.out, hs1.out, hkv.out, hs2.out, addV]
          | false =>
            have hend : Hd (sx.2 ≠ 0 ∨ many ≤ i) := ⟨.inl (by rw [her.out]; simpa using hz)⟩
            have hpg : Hd (∀ m, pageOf b m → (⟨a, bb, cc, h, ks, vs, kd⟩ : Nd) = m ∧ sx.2 = 0) := ⟨fun m hm => ref_end hx0.out hx.out hi.out.1 hend.out hm⟩
            have hnd : Hd (NdAt V ⟨a, bb, cc, h, ks, vs, kd⟩ A4 n4 c4 A5 n5 c5 A6 n6 c6) := ⟨hL.out.ndAt (by have := hn.out; have := hi.out; have := hmb.out; omega) (by have := hn.out; have := hi.out; have := hmb.out; omega) (by have := hn.out; have := hi.out; have := hmb.out; omega)⟩
            have hnw : Hd (NdNew (gn + 1) ⟨a, bb, cc, h, ks, vs, kd⟩ A4 A5 A6) := ⟨⟨hL.out.keys.new (Nat.le_refl _), hL.out.vals.new (Nat.le_refl _), hL.out.kids.new (Nat.le_refl _)⟩⟩
            clear hL hx hend
            obtain ⟨hd0, hd1, hd2, hd3, hd4, hd5, hd6⟩ := hst.out.facts
            go_wp2_with fail
            refine (refencode_any _ _ _ _ _ _ _ _ _ _ V hnd.out).mono ?_
            rintro e V5 ⟨hk5, hyes, hnot⟩
            have hst5 := Hd.mk (hst.out.grow hk5 (fun _ h => h.elim))
            have hnd5 := Hd.mk (hnd.out.ext hk5)
            clear hd0 hd1 hd2 hd3 hd4 hd5 hd6 herr hst hnd hk5
            have herr := hst5.out.err
            rw [her.out] at herr
            obtain ⟨hd0, hd1, hd2, hd3, hd4, hd5, hd6⟩ := hst5.out.facts
            obtain ⟨hp0, hp1, hp2, hp3, hp4, hp5, hp6, hf0, hf1, hf2, hf3, hf4, hf5, hf6⟩ := z_facts hst5.out.res
            have hK5 := Hd.mk hst5.out.keep
            have hbr := Hd.mk hst5.out.res
            cases hzz : (er != 0) with
            | true =>
              have hno : Hd (∀ m, ¬ pageOf b m) := ⟨fun m hm => by have := (hpg.out m hm).2; rw [her.out] at this; rw [this] at hzz; cases hzz⟩
              clear hpg
              cases hok : okB ⟨a, bb, cc, h, ks, vs, kd⟩ with
              | false =>
                obtain rfl := hnot hok
                clear hok hnot hyes
                go_wp2_with fail
                obtain ⟨V9, hV9⟩ : ∃ V9, ((((((V5.setCell ⟨gr, 0, none⟩ (.int .i64 0)).setCell ⟨gr, 1, none⟩ (.int .i64 0)).setCell ⟨gr, 2, none⟩ (.int .i64 0)).setCell ⟨gr, 3, none⟩ (.string ⟨#[]⟩)).setCell ⟨gr, 4, none⟩ (.slice none 0 0)).setCell ⟨gr, 5, none⟩ (.slice none 0 0)).setCell ⟨gr, 6, none⟩ (.slice none 0 0) = V9 := ⟨_, rfl⟩
                have hch := chain7 hbr.out _ _ _ _ _ _ _ hV9
                rw [hV9]
                clear hV9 hp0 hp1 hp2 hp3 hp4 hp5 hp6 hf0 hf1 hf2 hf3 hf4 hf5 hf6
                obtain ⟨he0, he1, he2, he3, he4, he5, he6⟩ := nd_facts hch.1
                have hk9 := Hd.mk hch.2
                clear hch
                refine bodyPost_ret (v := .tuple #[ndV zNd none 0 0 none 0 0 none 0 0, .int .i64 60]) (by simp [results, Try.results33, go_sem, he0, he1, he2, he3, he4, he5, he6, zNd]) rfl ?_
                exact hR.out _ _ (.no hno.out (hK5.out.trans hk9.out (fun k hk e => by have := hgr.out; omega)))
              | true =>
                obtain ⟨A7, c7, rfl, ho7⟩ := hyes hok
                clear hok hnot ho7 hyes
                go_wp2_with fail
                obtain ⟨V9, hV9⟩ : ∃ V9, ((((((V5.setCell ⟨gr, 0, none⟩ (.int .i64 0)).setCell ⟨gr, 1, none⟩ (.int .i64 0)).setCell ⟨gr, 2, none⟩ (.int .i64 0)).setCell ⟨gr, 3, none⟩ (.string ⟨#[]⟩)).setCell ⟨gr, 4, none⟩ (.slice none 0 0)).setCell ⟨gr, 5, none⟩ (.slice none 0 0)).setCell ⟨gr, 6, none⟩ (.slice none 0 0) = V9 := ⟨_, rfl⟩
                have hch := chain7 hbr.out _ _ _ _ _ _ _ hV9
                rw [hV9]
                clear hV9 hp0 hp1 hp2 hp3 hp4 hp5 hp6 hf0 hf1 hf2 hf3 hf4 hf5 hf6
                obtain ⟨he0, he1, he2, he3, he4, he5, he6⟩ := nd_facts hch.1
                have hk9 := Hd.mk hch.2
                clear hch
                refine bodyPost_ret (v := .tuple #[ndV zNd none 0 0 none 0 0 none 0 0, .int .i64 60]) (by simp [results, Try.results33, go_sem, he0, he1, he2, he3, he4, he5, he6, zNd]) rfl ?_
                exact hR.out _ _ (.no hno.out (hK5.out.trans hk9.out (fun k hk e => by have := hgr.out; omega)))
            | false =>
              cases hok : okB ⟨a, bb, cc, h, ks, vs, kd⟩ with
              | false =>
                obtain rfl := hnot hok
                have hno : Hd (∀ m, ¬ pageOf b m) := ⟨fun m hm => by have := (hpg.out m hm).1; rw [this] at hok; rw [hm.1] at hok; cases hok⟩
                clear hok hnot hyes hpg
                go_wp2_with fail
                obtain ⟨V9, hV9⟩ : ∃ V9, ((((((V5.setCell ⟨gr, 0, none⟩ (.int .i64 0)).setCell ⟨gr, 1, none⟩ (.int .i64 0)).setCell ⟨gr, 2, none⟩ (.int .i64 0)).setCell ⟨gr, 3, none⟩ (.string ⟨#[]⟩)).setCell ⟨gr, 4, none⟩ (.slice none 0 0)).setCell ⟨gr, 5, none⟩ (.slice none 0 0)).setCell ⟨gr, 6, none⟩ (.slice none 0 0) = V9 := ⟨_, rfl⟩
                have hch := chain7 hbr.out _ _ _ _ _ _ _ hV9
                rw [hV9]
                clear hV9 hp0 hp1 hp2 hp3 hp4 hp5 hp6 hf0 hf1 hf2 hf3 hf4 hf5 hf6
                obtain ⟨he0, he1, he2, he3, he4, he5, he6⟩ := nd_facts hch.1
                have hk9 := Hd.mk hch.2
                clear hch
                refine bodyPost_ret (v := .tuple #[ndV zNd none 0 0 none 0 0 none 0 0, .int .i64 60]) (by simp [results, Try.results33, go_sem, he0, he1, he2, he3, he4, he5, he6, zNd]) rfl ?_
                exact hR.out _ _ (.no hno.out (hK5.out.trans hk9.out (fun k hk e => by have := hgr.out; omega)))
              | true =>
                obtain ⟨A7, c7, rfl, ho7⟩ := hyes hok
                have ho7 := Hd.mk ho7
                have hok := Hd.mk hok
                clear hyes hnot
                obtain ⟨S1, hS1⟩ : ∃ S, Hd (bsStr (encB ⟨a, bb, cc, h, ks, vs, kd⟩) = S) := ⟨_, ⟨rfl⟩⟩
                obtain ⟨S2, hS2⟩ : ∃ S, Hd (bsStr b = S) := ⟨_, ⟨rfl⟩⟩
                have hcv1 := run_conv8 (P := Try.prog) (dst := 9) Try.underlying31 Try.underlying5 Try.underlying9 ho7.out.sl
                have hcv2 := run_conv8 (P := Try.prog) (dst := 9) Try.underlying31 Try.underlying5 Try.underlying9 (HS.out.ext hK5.out)
                rw [hS1.out] at hcv1
                rw [hS2.out] at hcv2
                cases hq : (S1.toList == S2.toList) with
                | true =>
                  have heq : Hd (encB ⟨a, bb, cc, h, ks, vs, kd⟩ = b) := ⟨by rw [← hS1.out, ← hS2.out, bsStr_toList, bsStr_toList] at hq; simpa using hq⟩
                  go_wp2_with fail
                  obtain ⟨V9, hV9⟩ : ∃ V9, ((((((V5.setCell ⟨gr, 0, none⟩ (.int .i64 a)).setCell ⟨gr, 1, none⟩ (.int .i64 bb)).setCell ⟨gr, 2, none⟩ (.int .i64 cc)).setCell ⟨gr, 3, none⟩ (.string h)).setCell ⟨gr, 4, none⟩ (.slice A4 n4 c4)).setCell ⟨gr, 5, none⟩ (.slice A5 n5 c5)).setCell ⟨gr, 6, none⟩ (.slice A6 n6 c6) = V9 := ⟨_, rfl⟩
                  have hch := chain7 hbr.out _ _ _ _ _ _ _ hV9
                  rw [hV9]
                  clear hV9 hp0 hp1 hp2 hp3 hp4 hp5 hp6 hf0 hf1 hf2 hf3 hf4 hf5 hf6 hd0 hd1 hd2 hd3 hd4 hd5 hd6
                  obtain ⟨he0, he1, he2, he3, he4, he5, he6⟩ := nd_facts hch.1
                  have hk9 := Hd.mk hch.2
                  clear hch
                  refine bodyPost_ret (v := .tuple #[.agg #[.int .i64 a, .int .i64 bb, .int .i64 cc, .string h, .slice A4 n4 c4, .slice A5 n5 c5, .slice A6 n6 c6], .int .i64 0]) (by simp [results, Try.results33, go_sem, he0, he1, he2, he3, he4, he5, he6]) rfl ?_
                  have hkk : Ext w V9 := hK5.out.trans hk9.out (fun k hk e => by have := hgr.out; omega)
                  refine hR.out _ _ ⟨⟨a, bb, cc, h, ks, vs, kd⟩, 0, A4, n4, c4, A5, n5, c5, A6, n6, c6, rfl, ?_, hkk, .yes ⟨hok.out, ?_, heq.out⟩⟩
                  · exact hnd5.out.keepN hnw.out hk9.out (fun k e => by have := hst5.out.ltg; have := hst5.out.ltn; omega)
                  · have := hnd5.out.b4; have := hnd5.out.keys.len; omega
                | false =>
                  have hno : Hd (∀ m, ¬ pageOf b m) := ⟨fun m hm => by
                    have h1 := (hpg.out m hm).1
                    rw [← hS1.out, ← hS2.out, bsStr_toList, bsStr_toList, h1, hm.2.2] at hq
                    simp at hq⟩
                  clear hpg
                  go_wp2_with fail
                  obtain ⟨V9, hV9⟩ : ∃ V9, ((((((V5.setCell ⟨gr, 0, none⟩ (.int .i64 0)).setCell ⟨gr, 1, none⟩ (.int .i64 0)).setCell ⟨gr, 2, none⟩ (.int .i64 0)).setCell ⟨gr, 3, none⟩ (.string ⟨#[]⟩)).setCell ⟨gr, 4, none⟩ (.slice none 0 0)).setCell ⟨gr, 5, none⟩ (.slice none 0 0)).setCell ⟨gr, 6, none⟩ (.slice none 0 0) = V9 := ⟨_, rfl⟩
                  have hch := chain7 hbr.out _ _ _ _ _ _ _ hV9
                  rw [hV9]
                  clear hV9 hp0 hp1 hp2 hp3 hp4 hp5 hp6 hf0 hf1 hf2 hf3 hf4 hf5 hf6
                  obtain ⟨he0, he1, he2, he3, he4, he5, he6⟩ := nd_facts hch.1
                  have hk9 := Hd.mk hch.2
                  clear hch
                  refine bodyPost_ret (v := .tuple #[ndV zNd none 0 0 none 0 0 none 0 0, .int .i64 60]) (by simp [results, Try.results33, go_sem, he0, he1, he2, he3, he4, he5, he6, zNd]) rfl ?_
                  exact hR.out _ _ (.no hno.out (hK5.out.trans hk9.out (fun k hk e => by have := hgr.out; omega)))
        · have hend : Hd (sx.2 ≠ 0 ∨ many ≤ i) := ⟨.inr (by omega)⟩
          have hpg : Hd (∀ m, pageOf b m → (⟨a, bb, cc, h, ks, vs, kd⟩ : Nd) = m ∧ sx.2 = 0) := ⟨fun m hm => ref_end hx0.out hx.out hi.out.1 hend.out hm⟩
          have hnd : Hd (NdAt V ⟨a, bb, cc, h, ks, vs, kd⟩ A4 n4 c4 A5 n5 c5 A6 n6 c6) := ⟨hL.out.ndAt (by have := hn.out; have := hi.out; have := hmb.out; omega) (by have := hn.out; have := hi.out; have := hmb.out; omega) (by have := hn.out; have := hi.out; have := hmb.out; omega)⟩
          have hnw : Hd (NdNew (gn + 1) ⟨a, bb, cc, h, ks, vs, kd⟩ A4 A5 A6) := ⟨⟨hL.out.keys.new (Nat.le_refl _), hL.out.vals.new (Nat.le_refl _), hL.out.kids.new (Nat.le_refl _)⟩⟩
          clear hL hx hend
          obtain ⟨hd0, hd1, hd2, hd3, hd4, hd5, hd6⟩ := hst.out.facts
          go_wp2_with fail
          refine (refencode_any _ _ _ _ _ _ _ _ _ _ V hnd.out).mono ?_
          rintro e V5 ⟨hk5, hyes, hnot⟩
          have hst5 := Hd.mk (hst.out.grow hk5 (fun _ h => h.elim))
          have hnd5 := Hd.mk (hnd.out.ext hk5)
          clear hd0 hd1 hd2 hd3 hd4 hd5 hd6 herr hst hnd hk5
          have herr := hst5.out.err
          rw [her.out] at herr
          obtain ⟨hd0, hd1, hd2, hd3, hd4, hd5, hd6⟩ := hst5.out.facts
          obtain ⟨hp0, hp1, hp2, hp3, hp4, hp5, hp6, hf0, hf1, hf2, hf3, hf4, hf5, hf6⟩ := z_facts hst5.out.res
          have hK5 := Hd.mk hst5.out.keep
          have hbr := Hd.mk hst5.out.res
          cases hzz : (er != 0) with
          | true =>
            have hno : Hd (∀ m, ¬ pageOf b m) := ⟨fun m hm => by have := (hpg.out m hm).2; rw [her.out] at this; rw [this] at hzz; cases hzz⟩
            clear hpg
            cases hok : okB ⟨a, bb, cc, h, ks, vs, kd⟩ with
            | false =>
              obtain rfl := hnot hok
              clear hok hnot hyes
              go_wp2_with fail
              obtain ⟨V9, hV9⟩ : ∃ V9, ((((((V5.setCell ⟨gr, 0, none⟩ (.int .i64 0)).setCell ⟨gr, 1, none⟩ (.int .i64 0)).setCell ⟨gr, 2, none⟩ (.int .i64 0)).setCell ⟨gr, 3, none⟩ (.string ⟨#[]⟩)).setCell ⟨gr, 4, none⟩ (.slice none 0 0)).setCell ⟨gr, 5, none⟩ (.slice none 0 0)).setCell ⟨gr, 6, none⟩ (.slice none 0 0) = V9 := ⟨_, rfl⟩
              have hch := chain7 hbr.out _ _ _ _ _ _ _ hV9
              rw [hV9]
              clear hV9 hp0 hp1 hp2 hp3 hp4 hp5 hp6 hf0 hf1 hf2 hf3 hf4 hf5 hf6
              obtain ⟨he0, he1, he2, he3, he4, he5, he6⟩ := nd_facts hch.1
              have hk9 := Hd.mk hch.2
              clear hch
              refine bodyPost_ret (v := .tuple #[ndV zNd none 0 0 none 0 0 none 0 0, .int .i64 60]) (by simp [results, Try.results33, go_sem, he0, he1, he2, he3, he4, he5, he6, zNd]) rfl ?_
              exact hR.out _ _ (.no hno.out (hK5.out.trans hk9.out (fun k hk e => by have := hgr.out; omega)))
            | true =>
              obtain ⟨A7, c7, rfl, ho7⟩ := hyes hok
              clear hok hnot ho7 hyes
              go_wp2_with fail
              obtain ⟨V9, hV9⟩ : ∃ V9, ((((((V5.setCell ⟨gr, 0, none⟩ (.int .i64 0)).setCell ⟨gr, 1, none⟩ (.int .i64 0)).setCell ⟨gr, 2, none⟩ (.int .i64 0)).setCell ⟨gr, 3, none⟩ (.string ⟨#[]⟩)).setCell ⟨gr, 4, none⟩ (.slice none 0 0)).setCell ⟨gr, 5, none⟩ (.slice none 0 0)).setCell ⟨gr, 6, none⟩ (.slice none 0 0) = V9 := ⟨_, rfl⟩
              have hch := chain7 hbr.out _ _ _ _ _ _ _ hV9
              rw [hV9]
              clear hV9 hp0 hp1 hp2 hp3 hp4 hp5 hp6 hf0 hf1 hf2 hf3 hf4 hf5 hf6
              obtain ⟨he0, he1, he2, he3, he4, he5, he6⟩ := nd_facts hch.1
              have hk9 := Hd.mk hch.2
              clear hch
              refine bodyPost_ret (v := .tuple #[ndV zNd none 0 0 none 0 0 none 0 0, .int .i64 60]) (by simp [results, Try.results33, go_sem, he0, he1, he2, he3, he4, he5, he6, zNd]) rfl ?_
              exact hR.out _ _ (.no hno.out (hK5.out.trans hk9.out (fun k hk e => by have := hgr.out; omega)))
          | false =>
            cases hok : okB ⟨a, bb, cc, h, ks, vs, kd⟩ with
            | false =>
              obtain rfl := hnot hok
              have hno : Hd (∀ m, ¬ pageOf b m) := ⟨fun m hm => by have := (hpg.out m hm).1; rw [this] at hok; rw [hm.1] at hok; cases hok⟩
              clear hok hnot hyes hpg
              go_wp2_with fail
              obtain ⟨V9, hV9⟩ : ∃ V9, ((((((V5.setCell ⟨gr, 0, none⟩ (.int .i64 0)).setCell ⟨gr, 1, none⟩ (.int .i64 0)).setCell ⟨gr, 2, none⟩ (.int .i64 0)).setCell ⟨gr, 3, none⟩ (.string ⟨#[]⟩)).setCell ⟨gr, 4, none⟩ (.slice none 0 0)).setCell ⟨gr, 5, none⟩ (.slice none 0 0)).setCell ⟨gr, 6, none⟩ (.slice none 0 0) = V9 := ⟨_, rfl⟩
              have hch := chain7 hbr.out _ _ _ _ _ _ _ hV9
              rw [hV9]
              clear hV9 hp0 hp1 hp2 hp3 hp4 hp5 hp6 hf0 hf1 hf2 hf3 hf4 hf5 hf6
              obtain ⟨he0, he1, he2, he3, he4, he5, he6⟩ := nd_facts hch.1
              have hk9 := Hd.mk hch.2
              clear hch
              refine bodyPost_ret (v := .tuple #[ndV zNd none 0 0 none 0 0 none 0 0, .int .i64 60]) (by simp [results, Try.results33, go_sem, he0, he1, he2, he3, he4, he5, he6, zNd]) rfl ?_
              exact hR.out _ _ (.no hno.out (hK5.out.trans hk9.out (fun k hk e => by have := hgr.out; omega)))
            | true =>
              obtain ⟨A7, c7, rfl, ho7⟩ := hyes hok
              have ho7 := Hd.mk ho7
              have hok := Hd.mk hok
              clear hyes hnot
              obtain ⟨S1, hS1⟩ : ∃ S, Hd (bsStr (encB ⟨a, bb, cc, h, ks, vs, kd⟩) = S) := ⟨_, ⟨rfl⟩⟩
              obtain ⟨S2, hS2⟩ : ∃ S, Hd (bsStr b = S) := ⟨_, ⟨rfl⟩⟩
              have hcv1 := run_conv8 (P := Try.prog) (dst := 9) Try.underlying31 Try.underlying5 Try.underlying9 ho7.out.sl
              have hcv2 := run_conv8 (P := Try.prog) (dst := 9) Try.underlying31 Try.underlying5 Try.underlying9 (HS.out.ext hK5.out)
              rw [hS1.out] at hcv1
              rw [hS2.out] at hcv2
              cases hq : (S1.toList == S2.toList) with
              | true =>
                have heq : Hd (encB ⟨a, bb, cc, h, ks, vs, kd⟩ = b) := ⟨by rw [← hS1.out, ← hS2.out, bsStr_toList, bsStr_toList] at hq; simpa using hq⟩
                go_wp2_with fail
                obtain ⟨V9, hV9⟩ : ∃ V9, ((((((V5.setCell ⟨gr, 0, none⟩ (.int .i64 a)).setCell ⟨gr, 1, none⟩ (.int .i64 bb)).setCell ⟨gr, 2, none⟩ (.int .i64 cc)).setCell ⟨gr, 3, none⟩ (.string h)).setCell ⟨gr, 4, none⟩ (.slice A4 n4 c4)).setCell ⟨gr, 5, none⟩ (.slice A5 n5 c5)).setCell ⟨gr, 6, none⟩ (.slice A6 n6 c6) = V9 := ⟨_, rfl⟩
                have hch := chain7 hbr.out _ _ _ _ _ _ _ hV9
                rw [hV9]
                clear hV9 hp0 hp1 hp2 hp3 hp4 hp5 hp6 hf0 hf1 hf2 hf3 hf4 hf5 hf6 hd0 hd1 hd2 hd3 hd4 hd5 hd6
                obtain ⟨he0, he1, he2, he3, he4, he5, he6⟩ := nd_facts hch.1
                have hk9 := Hd.mk hch.2
                clear hch
                refine bodyPost_ret (v := .tuple #[.agg #[.int .i64 a, .int .i64 bb, .int .i64 cc, .string h, .slice A4 n4 c4, .slice A5 n5 c5, .slice A6 n6 c6], .int .i64 0]) (by simp [results, Try.results33, go_sem, he0, he1, he2, he3, he4, he5, he6]) rfl ?_
                have hkk : Ext w V9 := hK5.out.trans hk9.out (fun k hk e => by have := hgr.out; omega)
                refine hR.out _ _ ⟨⟨a, bb, cc, h, ks, vs, kd⟩, 0, A4, n4, c4, A5, n5, c5, A6, n6, c6, rfl, ?_, hkk, .yes ⟨hok.out, ?_, heq.out⟩⟩
                · exact hnd5.out.keepN hnw.out hk9.out (fun k e => by have := hst5.out.ltg; have := hst5.out.ltn; omega)
                · have := hnd5.out.b4; have := hnd5.out.keys.len; omega
              | false =>
                have hno : Hd (∀ m, ¬ pageOf b m) := ⟨fun m hm => by
                  have h1 := (hpg.out m hm).1
                  rw [← hS1.out, ← hS2.out, bsStr_toList, bsStr_toList, h1, hm.2.2] at hq
                  simp at hq⟩
                clear hpg
                go_wp2_with fail
                obtain ⟨V9, hV9⟩ : ∃ V9, ((((((V5.setCell ⟨gr, 0, none⟩ (.int .i64 0)).setCell ⟨gr, 1, none⟩ (.int .i64 0)).setCell ⟨gr, 2, none⟩ (.int .i64 0)).setCell ⟨gr, 3, none⟩ (.string ⟨#[]⟩)).setCell ⟨gr, 4, none⟩ (.slice none 0 0)).setCell ⟨gr, 5, none⟩ (.slice none 0 0)).setCell ⟨gr, 6, none⟩ (.slice none 0 0) = V9 := ⟨_, rfl⟩
                have hch := chain7 hbr.out _ _ _ _ _ _ _ hV9
                rw [hV9]
                clear hV9 hp0 hp1 hp2 hp3 hp4 hp5 hp6 hf0 hf1 hf2 hf3 hf4 hf5 hf6
                obtain ⟨he0, he1, he2, he3, he4, he5, he6⟩ := nd_facts hch.1
                have hk9 := Hd.mk hch.2
                clear hch
                refine bodyPost_ret (v := .tuple #[ndV zNd none 0 0 none 0 0 none 0 0, .int .i64 60]) (by simp [results, Try.results33, go_sem, he0, he1, he2, he3, he4, he5, he6, zNd]) rfl ?_
                exact hR.out _ _ (.no hno.out (hK5.out.trans hk9.out (fun k hk e => by have := hgr.out; omega)))
  · have hno : Hd (∀ m, ¬ pageOf b m) := ⟨fun m hm => by have := pageOf_len hm; have := HS.out.len; omega⟩
    have hd : ((n : Int) != 256) = true := by rw [bne_iff_ne]; omega
    have h256 := Hd.mk h256
    go_enter Try.func33, Try.ntmps33
    go_wp2_with fail
    obtain ⟨W0, hW0⟩ : ∃ W0, w.alloc (Obj.cells zcs 25) = W0 := ⟨_, rfl⟩
    have hk0 : Hd (Ext w W0) := ⟨by rw [← hW0]; exact (ext_refl w).alloc _⟩
    have hb0 : Hd (W0.heap[w.heap.size]? = some (.cells zcs 25 (0, 0))) := ⟨by rw [← hW0]; exact heap_alloc_new w _⟩
    rw [hW0]
    clear hW0
    obtain ⟨hp0, hp1, hp2, hp3, hp4, hp5, hp6⟩ := nd_facts hb0.out
    refine bodyPost_ret (v := .tuple #[ndV zNd none 0 0 none 0 0 none 0 0, .int .i64 60]) (by simp [results, Try.results33, go_sem, hp0, hp1, hp2, hp3, hp4, hp5, hp6, zNd]) rfl ?_
    exact hR.out _ _ (.no hno.out hk0.out)
end Go.Proofs.Ythpfkdaijiaalaa
