/- A record's bytes are read: by the code. -/
import Derived.Test.YthpfkdaijiaalaaBE
import Derived.Deep.RegionHeld3
namespace Go.Proofs.Ythpfkdaijiaalaa
open Go.RowKit

theorem rcap_any (g gc : Nat) (s : RSt) (k : Nat) (hk : sizedB k = true) (w : World) (hc : w.cell? ⟨gc, 0, none⟩ = some (.pointer (some ⟨g, 0, none⟩))) (h : Rd w g s.1 s.2) :
    Calls Try.prog 132 #[.int .i64 k, .pointer (some ⟨gc, 0, none⟩)] w (RetN w g (rdN k s)) := by
  refine hide_post fun R hR => ?_
  have HR := Hd.mk h; clear h
  go_enter Try.func132, Try.ntmps132
  go_wp2_with fail
  refine (rnum_any g s.1 s.2 k hk w HR.out).mono ?_
  rintro e w1 ⟨rfl, hr1, hk1⟩
  have hr1 := Hd.mk hr1
  have hk1 := Hd.mk hk1
  go_wp2_with fail
  exact hR.out _ _ ⟨rfl, hr1.out, hk1.out⟩
/-- A record is stored into a block of its own kind. -/
theorem chain8 {V : World} {G : Nat} {c0 c1 c2 c3 c4 c5 c6 c7 : Value} (r0 : V.heap[G]? = some (.cells #[c0, c1, c2, c3, c4, c5, c6, c7] 46 (0, 0))) (v0 v1 v2 v3 v4 v5 v6 v7 : Value) {V9 : World}
    (e : (((((((V.setCell ⟨G, 0, none⟩ v0).setCell ⟨G, 1, none⟩ v1).setCell ⟨G, 2, none⟩ v2).setCell ⟨G, 3, none⟩ v3).setCell ⟨G, 4, none⟩ v4).setCell ⟨G, 5, none⟩ v5).setCell ⟨G, 6, none⟩ v6).setCell ⟨G, 7, none⟩ v7 = V9) :
    V9.heap[G]? = some (.cells #[v0, v1, v2, v3, v4, v5, v6, v7] 46 (0, 0)) ∧ Keep (fun k => k = G) V V9 := by
  have k0 := Keep.refl (fun k => k = G) V
  have r1 := heap_setCell_same V G 0 _ _ v0 r0
  have r2 := heap_setCell_same _ G 1 _ _ v1 r1
  have r3 := heap_setCell_same _ G 2 _ _ v2 r2
  have r4 := heap_setCell_same _ G 3 _ _ v3 r3
  have r5 := heap_setCell_same _ G 4 _ _ v4 r4
  have r6 := heap_setCell_same _ G 5 _ _ v5 r5
  have r7 := heap_setCell_same _ G 6 _ _ v6 r6
  have r8 := heap_setCell_same _ G 7 _ _ v7 r7
  rw [e] at r8
  refine ⟨by rw [r8]; simp, ?_⟩
  rw [← e]
  exact (((((((k0.setCell (p := ⟨G, 0, none⟩) (fun _ => rfl) _).setCell (p := ⟨G, 1, none⟩) (fun _ => rfl) _).setCell (p := ⟨G, 2, none⟩) (fun _ => rfl) _).setCell (p := ⟨G, 3, none⟩) (fun _ => rfl) _).setCell (p := ⟨G, 4, none⟩) (fun _ => rfl) _).setCell (p := ⟨G, 5, none⟩) (fun _ => rfl) _).setCell (p := ⟨G, 6, none⟩) (fun _ => rfl) _).setCell (p := ⟨G, 7, none⟩) (fun _ => rfl) _
abbrev zrs : Array Value := #[.int .i64 0, .int .i64 0, .int .i64 0, .int .i64 0, .int .i64 0, .int .i64 0, .string ⟨#[]⟩, .string ⟨#[]⟩]
theorem zr_facts {V : World} {G : Nat} (hb : V.heap[G]? = some (.cells zrs 46 (0, 0))) : V.cell? ⟨G, 0, none⟩ = some (.int .i64 0) ∧ V.cell? ⟨G, 1, none⟩ = some (.int .i64 0) ∧ V.cell? ⟨G, 2, none⟩ = some (.int .i64 0) ∧ V.cell? ⟨G, 3, none⟩ = some (.int .i64 0) ∧
    V.cell? ⟨G, 4, none⟩ = some (.int .i64 0) ∧ V.cell? ⟨G, 5, none⟩ = some (.int .i64 0) ∧ V.cell? ⟨G, 6, none⟩ = some (.string ⟨#[]⟩) ∧ V.cell? ⟨G, 7, none⟩ = some (.string ⟨#[]⟩) ∧ V.frozen? ⟨G, 0, none⟩ = false ∧ V.frozen? ⟨G, 1, none⟩ = false ∧ V.frozen? ⟨G, 2, none⟩ = false ∧
    V.frozen? ⟨G, 3, none⟩ = false ∧ V.frozen? ⟨G, 4, none⟩ = false ∧ V.frozen? ⟨G, 5, none⟩ = false ∧ V.frozen? ⟨G, 6, none⟩ = false ∧ V.frozen? ⟨G, 7, none⟩ = false := by
  refine ⟨?_, ?_, ?_, ?_, ?_, ?_, ?_, ?_, ?_, ?_, ?_, ?_, ?_, ?_, ?_, ?_⟩ <;> simp [World.cell?, World.frozen?, hb]
/-- Where the record's reader stands. -/
structure Rf (w V : World) (gr g gc : Nat) (s : RSt) : Prop where
  keep : Ext w V
  rd : Rd V g s.1 s.2
  small : s.1.length ≤ 140737488355328
  res : V.heap[gr]? = some (.cells zrs 46 (0, 0))
  cap : V.heap[gc]? = some (.cells #[.pointer (some ⟨g, 0, none⟩)] 132 (0, 0))
  ltr : w.heap.size ≤ gr
  ltg : gr < g
  ltc : g < gc
theorem Rf.cell {w V : World} {gr g gc : Nat} {s : RSt} (h : Rf w V gr g gc s) : V.cell? ⟨gc, 0, none⟩ = some (.pointer (some ⟨g, 0, none⟩)) := blk_cell1 h.cap
theorem Rf.lt {w V : World} {gr g gc : Nat} {s : RSt} (h : Rf w V gr g gc s) : gc < V.heap.size := (Array.getElem?_eq_some_iff.1 h.cap).1
theorem Rf.step {w V V' : World} {gr g gc : Nat} {s s' : RSt} (h : Rf w V gr g gc s) (hk : Keep (fun k => k = g) V V') (hr : Rd V' g s'.1 s'.2) (hl : s'.1.length ≤ s.1.length) : Rf w V' gr g gc s' := by
  have h1 := h.ltr; have h2 := h.ltg; have h3 := h.ltc
  exact ⟨h.keep.trans hk (fun k hk' e => by omega), hr, Nat.le_trans hl h.small, hk.blk h.res (by omega), hk.blk h.cap (by omega), h1, h2, h3⟩
theorem Rf.grow {w V V' : World} {gr g gc : Nat} {s : RSt} {S : Nat → Prop} (h : Rf w V gr g gc s) (hk : Keep S V V') (hS : ∀ k, S k → gc < k) : Rf w V' gr g gc s := by
  have h1 := h.ltr; have h2 := h.ltg; have h3 := h.ltc
  exact ⟨h.keep.trans hk (fun k hk' hs => by have := hS k hs; omega), h.rd.keepB hk (fun k hs => by have := hS k hs; omega), h.small, hk.blk h.res (fun hs => by have := hS _ hs; omega), hk.blk h.cap (fun hs => by have := hS _ hs; omega), h1, h2, h3⟩

/-- What reading the inside of a frame answers. -/
noncomputable def readR (bs : List UInt8) : Rc × Int := if rEnd (rdRec (bs, 0)).2.1 (rdRec (bs, 0)).2.2 ≠ 0 then (zRc, 90) else ((rdRec (bs, 0)).1, ckR (rdRec (bs, 0)).1)
def RetRead (w : World) (bs : List UInt8) (e : Ending) (w' : World) : Prop := e = .returned (.tuple #[rcV (readR bs).1, .int .i64 (readR bs).2]) ∧ Ext w w'
set_option maxRecDepth 100000 in
set_option maxHeartbeats 4000000 in
theorem read_any (A : Option Addr) (n c : Nat) (bs : List UInt8) (w : World) (hs : SlAt enc8 w A n c bs) (hn : n ≤ 140737488351232) :
    Calls Try.prog 102 #[.slice A n c] w (RetRead w bs) := by
  refine hide_post fun R hR => ?_
  have HS := Hd.mk hs; clear hs
  have HN := Hd.mk hn; clear hn
  go_enter Try.func102, Try.ntmps102
  go_wp2_with fail
  obtain ⟨W0, hW0⟩ : ∃ W0, w.alloc (Obj.cells zrs 46) = W0 := ⟨_, rfl⟩
  have hk0 : Hd (Ext w W0) := ⟨by rw [← hW0]; exact (ext_refl w).alloc _⟩
  have hb0 : Hd (W0.heap[w.heap.size]? = some (.cells zrs 46 (0, 0))) := ⟨by rw [← hW0]; exact heap_alloc_new w _⟩
  rw [hW0]
  clear hW0
  obtain ⟨gr, hgr⟩ : ∃ gr, w.heap.size = gr := ⟨_, rfl⟩
  rw [hgr] at hb0 ⊢
  have hgr := Hd.mk hgr
  refine (rof_any A n c bs W0 (HS.out.ext hk0.out) (by have := HN.out; omega)).mono ?_
  rintro e W1 ⟨g, rfl, hg, hr, hk1⟩
  have hb1 := hk1.blk hb0.out id
  have hK1 := Hd.mk (hk0.out.then' hk1)
  have hlt := Hd.mk (And.intro hg (Array.getElem?_eq_some_iff.1 hb0.out).1)
  have hg1 : Hd (g < W1.heap.size) := ⟨by obtain ⟨_, _, _, h, _⟩ := hr.row; exact (Array.getElem?_eq_some_iff.1 h).1⟩
  have hb1 := Hd.mk hb1
  have hr := Hd.mk hr
  clear hk1 hg
  go_upto_region 2 with fail
  obtain ⟨V0, hV0⟩ : ∃ V0, W1.alloc (Obj.cells #[.pointer (some ⟨g, 0, none⟩)] 132) = V0 := ⟨_, rfl⟩
  obtain ⟨gc, hgc⟩ : ∃ gc, W1.heap.size = gc := ⟨_, rfl⟩
  have hst : Hd (Rf w V0 gr g gc (bs, 0)) := ⟨by
    have ka := (ext_refl W1).alloc (Obj.cells #[.pointer (some ⟨g, 0, none⟩)] 132)
    have kn := heap_alloc_new W1 (Obj.cells #[.pointer (some ⟨g, 0, none⟩)] 132)
    rw [hV0] at ka kn
    rw [hgc] at kn
    have h1 := hlt.out; have h2 := hg1.out; have h3 := hgr.out
    have h4 := HS.out.len; have h5 := HN.out
    exact ⟨hK1.out.ext ka, hr.out.keep ka (fun _ h => h.elim), by simp only; omega, ka.blk hb1.out id, kn, by omega, by omega, by omega⟩⟩
  rw [hV0, hgc]
  clear hV0 hgc hb1 hr hK1 hb0 hk0
  have hcb := hst.out.cell
  obtain ⟨s0, hs0⟩ : ∃ s : RSt, (bs, 0) = s := ⟨_, rfl⟩
  rw [hs0] at hst
  have HZ := Hd.mk hs0
  clear hs0
  go_wp2_with fail
  refine (rcap_any g gc s0 8 rfl _ hcb hst.out.rd).mono ?_
  rintro e V1 ⟨rfl, hr1, hk1⟩
  have hst1 := Hd.mk (hst.out.step hk1 hr1 (rdN_rest _ _))
  clear hr1 hk1 hst hcb
  obtain ⟨lsn, hx⟩ : ∃ x, (rdN 8 s0).1 = x := ⟨_, rfl⟩
  obtain ⟨s1, hs⟩ : ∃ s, (rdN 8 s0).2 = s := ⟨_, rfl⟩
  rw [hx]
  rw [hs] at hst1
  have Hlsn := Hd.mk (And.intro hx hs)
  clear hx hs
  have hst := hst1
  clear hst1
  have hcb := hst.out.cell
  go_wp2_with fail
  refine (rcap_any g gc s1 8 rfl _ hcb hst.out.rd).mono ?_
  rintro e V1 ⟨rfl, hr1, hk1⟩
  have hst1 := Hd.mk (hst.out.step hk1 hr1 (rdN_rest _ _))
  clear hr1 hk1 hst hcb
  obtain ⟨epoch, hx⟩ : ∃ x, (rdN 8 s1).1 = x := ⟨_, rfl⟩
  obtain ⟨s2, hs⟩ : ∃ s, (rdN 8 s1).2 = s := ⟨_, rfl⟩
  rw [hx]
  rw [hs] at hst1
  have Hepoch := Hd.mk (And.intro hx hs)
  clear hx hs
  have hst := hst1
  clear hst1
  have hcb := hst.out.cell
  go_wp2_with fail
  refine (rcap_any g gc s2 1 rfl _ hcb hst.out.rd).mono ?_
  rintro e V1 ⟨rfl, hr1, hk1⟩
  have hst1 := Hd.mk (hst.out.step hk1 hr1 (rdN_rest _ _))
  clear hr1 hk1 hst hcb
  obtain ⟨kind, hx⟩ : ∃ x, (rdN 1 s2).1 = x := ⟨_, rfl⟩
  obtain ⟨s3, hs⟩ : ∃ s, (rdN 1 s2).2 = s := ⟨_, rfl⟩
  rw [hx]
  rw [hs] at hst1
  have Hkind := Hd.mk (And.intro hx hs)
  clear hx hs
  have hst := hst1
  clear hst1
  have hcb := hst.out.cell
  go_wp2_with fail
  refine (rcap_any g gc s3 4 rfl _ hcb hst.out.rd).mono ?_
  rintro e V1 ⟨rfl, hr1, hk1⟩
  have hst1 := Hd.mk (hst.out.step hk1 hr1 (rdN_rest _ _))
  clear hr1 hk1 hst hcb
  obtain ⟨page, hx⟩ : ∃ x, (rdN 4 s3).1 = x := ⟨_, rfl⟩
  obtain ⟨s4, hs⟩ : ∃ s, (rdN 4 s3).2 = s := ⟨_, rfl⟩
  rw [hx]
  rw [hs] at hst1
  have Hpage := Hd.mk (And.intro hx hs)
  clear hx hs
  have hst := hst1
  clear hst1
  have hcb := hst.out.cell
  go_wp2_with fail
  refine (rcap_any g gc s4 4 rfl _ hcb hst.out.rd).mono ?_
  rintro e V1 ⟨rfl, hr1, hk1⟩
  have hst1 := Hd.mk (hst.out.step hk1 hr1 (rdN_rest _ _))
  clear hr1 hk1 hst hcb
  obtain ⟨other, hx⟩ : ∃ x, (rdN 4 s4).1 = x := ⟨_, rfl⟩
  obtain ⟨s5, hs⟩ : ∃ s, (rdN 4 s4).2 = s := ⟨_, rfl⟩
  rw [hx]
  rw [hs] at hst1
  have Hother := Hd.mk (And.intro hx hs)
  clear hx hs
  have hst := hst1
  clear hst1
  have hcb := hst.out.cell
  go_wp2_with fail
  refine (rcap_any g gc s5 8 rfl _ hcb hst.out.rd).mono ?_
  rintro e V1 ⟨rfl, hr1, hk1⟩
  have hst1 := Hd.mk (hst.out.step hk1 hr1 (rdN_rest _ _))
  clear hr1 hk1 hst hcb
  obtain ⟨req, hx⟩ : ∃ x, (rdN 8 s5).1 = x := ⟨_, rfl⟩
  obtain ⟨s6, hs⟩ : ∃ s, (rdN 8 s5).2 = s := ⟨_, rfl⟩
  rw [hx]
  rw [hs] at hst1
  have Hreq := Hd.mk (And.intro hx hs)
  clear hx hs
  have hst := hst1
  clear hst1
  have hcb := hst.out.cell
  go_upto_region 4 with fail
  obtain ⟨V2, hV2⟩ : ∃ V2, V1.alloc (Obj.cells #[.int .i64 lsn, .int .i64 epoch, .int .i64 kind, .int .i64 page, .int .i64 other, .int .i64 req, .string ⟨#[]⟩, .string ⟨#[]⟩] 46) = V2 := ⟨_, rfl⟩
  have hk2 : Hd (Ext V1 V2) := ⟨by rw [← hV2]; exact (ext_refl V1).alloc _⟩
  have hb2 : V2.heap[V1.heap.size]? = some (.cells #[.int .i64 lsn, .int .i64 epoch, .int .i64 kind, .int .i64 page, .int .i64 other, .int .i64 req, .string ⟨#[]⟩, .string ⟨#[]⟩] 46 (0, 0)) := by rw [← hV2]; exact heap_alloc_new V1 _
  rw [hV2]
  clear hV2
  obtain ⟨go, hgo⟩ : ∃ go, V1.heap.size = go := ⟨_, rfl⟩
  rw [hgo] at hb2 ⊢
  have hgo : Hd (gc < go) := ⟨by have := hst.out.lt; omega⟩
  have hst2 := Hd.mk (hst.out.grow hk2.out (fun _ h => h.elim))
  clear hst hcb hk2
  have hcb := hst2.out.cell
  go_wp2_with fail
  refine (rtext_any g s6.1 s6.2 65535 V2 hst2.out.rd hst2.out.small).mono ?_
  rintro e V3 ⟨rfl, hr3, hk3⟩
  have hst3 : Hd (Rf w V3 gr g gc (rdT 65535 s6).2) := ⟨hst2.out.step hk3 hr3 (rdT_rest _ _)⟩
  have hb3 := hk3.blk hb2 (by have h1 := hst2.out.ltc; have := hgo.out; omega)
  clear hr3 hk3 hcb hst2 hb2
  obtain ⟨key, hx⟩ : ∃ x, (rdT 65535 s6).1 = x := ⟨_, rfl⟩
  obtain ⟨s7, hs⟩ : ∃ s, (rdT 65535 s6).2 = s := ⟨_, rfl⟩
  have hx' : bsStr (rText s6.1 s6.2 65535).1 = key := hx
  rw [hx']
  rw [hs] at hst3
  have hkz : Hd (key.size ≤ 65535) := ⟨by rw [← hx]; exact rdT_size _ _⟩
  have Hkey := Hd.mk (And.intro hx hs)
  clear hx hx' hs
  obtain ⟨hd0, hd1, hd2, hd3, hd4, hd5, hd6, hd7⟩ := rc_facts hb3
  have hfz : V3.frozen? ⟨go, 6, none⟩ = false := by simp [World.frozen?, hb3]
  have hb4 := heap_setCell_same V3 go 6 _ _ (.string key) hb3
  have hk4 : Hd (Keep (fun k => k = go) V3 (V3.setCell ⟨go, 6, none⟩ (.string key))) := ⟨(Keep.refl (fun k => k = go) V3).setCell (p := ⟨go, 6, none⟩) (fun _ => rfl) _⟩
  go_upto_region 5 with fail
  obtain ⟨V4, hV4⟩ : ∃ V4, V3.setCell ⟨go, 6, none⟩ (.string key) = V4 := ⟨_, rfl⟩
  rw [hV4] at hb4 hk4 ⊢
  clear hV4 hb3 hfz hd0 hd1 hd2 hd3 hd4 hd5 hd6 hd7
  have hb4 : V4.heap[go]? = some (.cells #[.int .i64 lsn, .int .i64 epoch, .int .i64 kind, .int .i64 page, .int .i64 other, .int .i64 req, .string key, .string ⟨#[]⟩] 46 (0, 0)) := hb4
  have hst4 := Hd.mk (hst3.out.grow hk4.out (fun k e => by have := hgo.out; omega))
  clear hst3 hk4
  have hcb := hst4.out.cell
  go_wp2_with fail
  refine (rtext_any g s7.1 s7.2 65535 V4 hst4.out.rd hst4.out.small).mono ?_
  rintro e V5 ⟨rfl, hr3, hk3⟩
  have hst5 : Hd (Rf w V5 gr g gc (rdT 65535 s7).2) := ⟨hst4.out.step hk3 hr3 (rdT_rest _ _)⟩
  have hb5 := hk3.blk hb4 (by have h1 := hst4.out.ltc; have := hgo.out; omega)
  clear hr3 hk3 hcb hst4 hb4
  obtain ⟨value, hx⟩ : ∃ x, (rdT 65535 s7).1 = x := ⟨_, rfl⟩
  obtain ⟨s8, hs⟩ : ∃ s, (rdT 65535 s7).2 = s := ⟨_, rfl⟩
  have hx' : bsStr (rText s7.1 s7.2 65535).1 = value := hx
  rw [hx']
  rw [hs] at hst5
  have hvz : Hd (value.size ≤ 65535) := ⟨by rw [← hx]; exact rdT_size _ _⟩
  have Hvalue := Hd.mk (And.intro hx hs)
  clear hx hx' hs
  obtain ⟨hd0, hd1, hd2, hd3, hd4, hd5, hd6, hd7⟩ := rc_facts hb5
  have hfz : V5.frozen? ⟨go, 7, none⟩ = false := by simp [World.frozen?, hb5]
  have hb6 := heap_setCell_same V5 go 7 _ _ (.string value) hb5
  have hk6 : Hd (Keep (fun k => k = go) V5 (V5.setCell ⟨go, 7, none⟩ (.string value))) := ⟨(Keep.refl (fun k => k = go) V5).setCell (p := ⟨go, 7, none⟩) (fun _ => rfl) _⟩
  go_upto_region 6 with fail
  obtain ⟨V6, hV6⟩ : ∃ V6, V5.setCell ⟨go, 7, none⟩ (.string value) = V6 := ⟨_, rfl⟩
  rw [hV6] at hb6 hk6 ⊢
  clear hV6 hb5 hfz hd0 hd1 hd2 hd3 hd4 hd5 hd6 hd7
  have hb6 : V6.heap[go]? = some (.cells #[.int .i64 lsn, .int .i64 epoch, .int .i64 kind, .int .i64 page, .int .i64 other, .int .i64 req, .string key, .string value] 46 (0, 0)) := hb6
  have hst6 := Hd.mk (hst5.out.grow hk6.out (fun k e => by have := hgo.out; omega))
  clear hst5 hk6
  have hcb := hst6.out.cell
  have hx0 : Hd (rdRec (bs, 0) = (⟨lsn, epoch, kind, page, other, req, key, value⟩, s8)) := ⟨by
    unfold rdRec
    simp only [HZ.out, Hlsn.out.1, Hlsn.out.2, Hepoch.out.1, Hepoch.out.2, Hkind.out.1, Hkind.out.2, Hpage.out.1, Hpage.out.2, Hother.out.1, Hother.out.2, Hreq.out.1, Hreq.out.2, Hkey.out.1, Hkey.out.2, Hvalue.out.1, Hvalue.out.2]⟩
  go_wp2_with fail
  refine (rend_any g s8.1 s8.2 V6 hst6.out.rd hst6.out.small).mono ?_
  rintro e V7 ⟨rfl, rfl⟩
  obtain ⟨hp0, hp1, hp2, hp3, hp4, hp5, hp6, hp7, hf0, hf1, hf2, hf3, hf4, hf5, hf6, hf7⟩ := zr_facts hst6.out.res
  have hbr := Hd.mk hst6.out.res
  have hK := Hd.mk hst6.out.keep
  obtain ⟨en, hen⟩ : ∃ en, rEnd s8.1 s8.2 = en := ⟨_, rfl⟩
  rw [hen]
  have hen := Hd.mk hen
  cases hz : (en != 0) with
  | true =>
    have hrd : Hd (readR bs = (zRc, 90)) := ⟨by unfold readR; rw [hx0.out]; simp only [hen.out]; rw [if_pos (by simpa using hz)]⟩
    go_wp2_with fail
    obtain ⟨V9, hV9⟩ : ∃ V9, (((((((V6.setCell ⟨gr, 0, none⟩ (.int .i64 0)).setCell ⟨gr, 1, none⟩ (.int .i64 0)).setCell ⟨gr, 2, none⟩ (.int .i64 0)).setCell ⟨gr, 3, none⟩ (.int .i64 0)).setCell ⟨gr, 4, none⟩ (.int .i64 0)).setCell ⟨gr, 5, none⟩ (.int .i64 0)).setCell ⟨gr, 6, none⟩ (.string ⟨#[]⟩)).setCell ⟨gr, 7, none⟩ (.string ⟨#[]⟩) = V9 := ⟨_, rfl⟩
    have hch := chain8 hbr.out _ _ _ _ _ _ _ _ hV9
    rw [hV9]
    clear hV9 hp0 hp1 hp2 hp3 hp4 hp5 hp6 hp7 hf0 hf1 hf2 hf3 hf4 hf5 hf6 hf7
    obtain ⟨he0, he1, he2, he3, he4, he5, he6, he7⟩ := rc_facts hch.1
    have hk9 := Hd.mk hch.2
    clear hch
    refine bodyPost_ret (v := .tuple #[rcV zRc, .int .i64 90]) (by simp [results, Try.results102, go_sem, he0, he1, he2, he3, he4, he5, he6, he7, zRc]) rfl ?_
    exact hR.out _ _ ⟨by rw [hrd.out], hK.out.trans hk9.out (fun k hk e => by have := hgr.out; omega)⟩
  | false =>
    have hrd : Hd (readR bs = (⟨lsn, epoch, kind, page, other, req, key, value⟩, ckR ⟨lsn, epoch, kind, page, other, req, key, value⟩)) := ⟨by unfold readR; rw [hx0.out]; simp only [hen.out]; rw [if_neg (by simpa using hz)]⟩
    go_upto_region 8 with fail
    obtain ⟨hd0, hd1, hd2, hd3, hd4, hd5, hd6, hd7⟩ := rc_facts hb6
    have hbd : V6.drew.heap[gr]? = some (.cells zrs 46 (0, 0)) := hbr.out
    have hod : V6.drew.heap[go]? = some (.cells #[.int .i64 lsn, .int .i64 epoch, .int .i64 kind, .int .i64 page, .int .i64 other, .int .i64 req, .string key, .string value] 46 (0, 0)) := hb6
    have hne : go ≠ gr := by have h1 := hst6.out.ltg; have h2 := hst6.out.ltc; have := hgo.out; omega
    have hch := chain8 hbd (.int .i64 lsn) (.int .i64 epoch) (.int .i64 kind) (.int .i64 page) (.int .i64 other) (.int .i64 req) (.string key) (.string value) rfl
    have hob := hch.2.blk hod hne
    have hEd : Hd (Ext w V6.drew) := ⟨hK.out.drew⟩
    have hEc : Hd (Ext w _) := ⟨hEd.out.trans hch.2 (fun k hk e => by have := hgr.out; omega)⟩
    obtain ⟨hu0, hu1, hu2, hu3, hu4, hu5, hu6, hu7⟩ := rc_facts hob
    obtain ⟨hv0, hv1, hv2, hv3, hv4, hv5, hv6, hv7⟩ := rc_facts hod
    have hbd := Hd.mk hbd
    have hod := Hd.mk hod
    have hob := Hd.mk hob
    have hch := Hd.mk hch
    have hrs : Hd (RcS (⟨lsn, epoch, kind, page, other, req, key, value⟩ : Rc)) := ⟨⟨by have := hkz.out; simp only; omega, by have := hvz.out; simp only; omega⟩⟩
    have hne := Hd.mk hne
    go_region_held3 (fun w' => w'.cell? ⟨go, 0, none⟩ = some (.int .i64 lsn) ∧ w'.cell? ⟨go, 1, none⟩ = some (.int .i64 epoch) ∧ w'.cell? ⟨go, 2, none⟩ = some (.int .i64 kind) ∧ w'.cell? ⟨go, 3, none⟩ = some (.int .i64 page) ∧ w'.cell? ⟨go, 4, none⟩ = some (.int .i64 other) ∧ w'.cell? ⟨go, 5, none⟩ = some (.int .i64 req) ∧ w'.cell? ⟨go, 6, none⟩ = some (.string key) ∧ w'.cell? ⟨go, 7, none⟩ = some (.string value))
      (first | with_reducible exact ⟨hv0, hv1, hv2, hv3, hv4, hv5, hv6, hv7⟩ | with_reducible exact ⟨hu0, hu1, hu2, hu3, hu4, hu5, hu6, hu7⟩ | with_reducible exact ⟨hx0', hx1, hx2, hx3, hx4, hx5, hx6, hx7⟩ | with_reducible exact ⟨hy0, hy1, hy2, hy3, hy4, hy5, hy6, hy7⟩ | fail) (first
        | (go_at_call 37; refine (rcheck_any (⟨lsn, epoch, kind, page, other, req, key, value⟩ : Rc) hrs.out _).mono ?_; rintro e w' ⟨rfl, hk⟩; first
            | (have hoA := hk.blk hod.out id; have hbA := hk.blk hbd.out id; have hch2 := chain8 hbA (.int .i64 lsn) (.int .i64 epoch) (.int .i64 kind) (.int .i64 page) (.int .i64 other) (.int .i64 req) (.string key) (.string value) rfl; have hoB := hch2.2.blk hoA hne.out; have hEf : Hd (Ext w _) := ⟨(hEd.out.then' hk).trans hch2.2 (fun k hk e => by have := hgr.out; omega)⟩; have hfin := Hd.mk hch2.1; obtain ⟨hx0', hx1, hx2, hx3, hx4, hx5, hx6, hx7⟩ := rc_facts hoA; obtain ⟨hy0, hy1, hy2, hy3, hy4, hy5, hy6, hy7⟩ := rc_facts hoB; obtain ⟨hp0, hp1, hp2, hp3, hp4, hp5, hp6, hp7, hf0, hf1, hf2, hf3, hf4, hf5, hf6, hf7⟩ := zr_facts hbA; clear hch2 hoA hoB hbA hk)
            | (have hoA := hk.blk hob.out id; have hfin := Hd.mk (hk.blk hch.out.1 id); have hEf : Hd (Ext w _) := ⟨hEc.out.then' hk⟩; obtain ⟨hx0', hx1, hx2, hx3, hx4, hx5, hx6, hx7⟩ := rc_facts hoA; clear hoA hk)))
    all_goals
      go_wp2_with fail
      obtain ⟨he0, he1, he2, he3, he4, he5, he6, he7⟩ := rc_facts hfin.out
      refine bodyPost_ret (v := .tuple #[rcV (⟨lsn, epoch, kind, page, other, req, key, value⟩ : Rc), .int .i64 (ckR (⟨lsn, epoch, kind, page, other, req, key, value⟩ : Rc))]) (by simp [results, Try.results102, go_sem, he0, he1, he2, he3, he4, he5, he6, he7]) rfl ?_
      exact hR.out _ _ ⟨by rw [hrd.out], hEf.out⟩
end Go.Proofs.Ythpfkdaijiaalaa
