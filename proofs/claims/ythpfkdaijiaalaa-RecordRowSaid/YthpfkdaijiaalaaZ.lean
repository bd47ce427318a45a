/- page.Decode. -/
import Derived.Test.YthpfkdaijiaalaaY
namespace Go.Proofs.Ythpfkdaijiaalaa
open Go.RowKit

def zNd : Nd := ⟨0, 0, 0, ⟨#[]⟩, [], [], []⟩
theorem zNd_at (w : World) : NdAt w zNd none 0 0 none 0 0 none 0 0 :=
  ⟨SlAt.nil_ _ _, SlAt.nil_ _ _, SlAt.nil_ _ _, by omega, by omega, by omega, by show (0 : Nat) ≤ _; omega, fun k hk => by simp [zNd] at hk, fun k hk => by simp [zNd] at hk⟩
/-- The node and the number that some bytes are answered with. -/
def DecR (b : List UInt8) (n : Nd) (x : Int) : Prop := (x = 0 ∧ pageOf b n) ∨ (x = 60 ∧ n = zNd ∧ ∀ m, ¬ pageOf b m)
theorem DecR.one {b : List UInt8} {n n' : Nd} {x x' : Int} (h : DecR b n x) (h' : DecR b n' x') : n = n' ∧ x = x' := by
  rcases h with ⟨h1, h2⟩ | ⟨h1, h2, h3⟩ <;> rcases h' with ⟨k1, k2⟩ | ⟨k1, k2, k3⟩
  · exact ⟨pageOf_one h2 k2, by rw [h1, k1]⟩
  · exact absurd h2 (k3 _)
  · exact absurd k2 (h3 _)
  · exact ⟨by rw [h2, k2], by rw [h1, k1]⟩
theorem DecR.no {b : List UInt8} (h : ∀ m, ¬ pageOf b m) : DecR b zNd 60 := .inr ⟨rfl, rfl, h⟩
theorem DecR.yes {b : List UInt8} {n : Nd} (h : pageOf b n) : DecR b n 0 := .inl ⟨rfl, h⟩
def RetDec (w : World) (b : List UInt8) (e : Ending) (w' : World) : Prop :=
  ∃ n x A4 n4 c4 A5 n5 c5 A6 n6 c6, e = .returned (.tuple #[ndV n A4 n4 c4 A5 n5 c5 A6 n6 c6, .int .i64 x]) ∧ NdAt w' n A4 n4 c4 A5 n5 c5 A6 n6 c6 ∧ Ext w w' ∧ DecR b n x
theorem RetDec.no {w w' : World} {b : List UInt8} (h : ∀ m, ¬ pageOf b m) (hk : Ext w w') : RetDec w b (.returned (.tuple #[ndV zNd none 0 0 none 0 0 none 0 0, .int .i64 60])) w' :=
  ⟨zNd, 60, none, 0, 0, none, 0, 0, none, 0, 0, rfl, zNd_at w', hk, .no h⟩

theorem nodeP_page {b : List UInt8} {m : Nd} (h : pageOf b m) : nodeP (b.take 252, 0) = m := by
  have hr := (pageOf_raw h).2
  have F := pageOf_fit h
  obtain ⟨h1, h2, h3⟩ := rd_back F 252 (by omega) (List.replicate (252 - (rawB m).length) 0)
  rw [← hr] at h1
  unfold nodeP
  rw [h1]
  simp only
  have := F.many.1
  rw [show (min (m.keys.length : Int) 252).toNat = m.keys.length by omega]
  exact h3
/-- A node is stored into a block of its own kind. -/
theorem chain7 {V : World} {G : Nat} {c0 c1 c2 c3 c4 c5 c6 : Value} (r0 : V.heap[G]? = some (.cells #[c0, c1, c2, c3, c4, c5, c6] 25 (0, 0))) (v0 v1 v2 v3 v4 v5 v6 : Value) {V9 : World}
    (e : ((((((V.setCell ⟨G, 0, none⟩ v0).setCell ⟨G, 1, none⟩ v1).setCell ⟨G, 2, none⟩ v2).setCell ⟨G, 3, none⟩ v3).setCell ⟨G, 4, none⟩ v4).setCell ⟨G, 5, none⟩ v5).setCell ⟨G, 6, none⟩ v6 = V9) :
    V9.heap[G]? = some (.cells #[v0, v1, v2, v3, v4, v5, v6] 25 (0, 0)) ∧ Keep (fun k => k = G) V V9 := by
  have k0 := Keep.refl (fun k => k = G) V
  have r1 := heap_setCell_same V G 0 _ _ v0 r0
  have r2 := heap_setCell_same _ G 1 _ _ v1 r1
  have r3 := heap_setCell_same _ G 2 _ _ v2 r2
  have r4 := heap_setCell_same _ G 3 _ _ v3 r3
  have r5 := heap_setCell_same _ G 4 _ _ v4 r4
  have r6 := heap_setCell_same _ G 5 _ _ v5 r5
  have r7 := heap_setCell_same _ G 6 _ _ v6 r6
  rw [e] at r7
  refine ⟨by rw [r7]; simp, ?_⟩
  rw [← e]
  exact ((((((k0.setCell (p := ⟨G, 0, none⟩) (fun _ => rfl) _).setCell (p := ⟨G, 1, none⟩) (fun _ => rfl) _).setCell (p := ⟨G, 2, none⟩) (fun _ => rfl) _).setCell (p := ⟨G, 3, none⟩) (fun _ => rfl) _).setCell (p := ⟨G, 4, none⟩) (fun _ => rfl) _).setCell (p := ⟨G, 5, none⟩) (fun _ => rfl) _).setCell (p := ⟨G, 6, none⟩) (fun _ => rfl) _

set_option maxRecDepth 100000 in
set_option maxHeartbeats 4000000 in
theorem decode_any (A : Option Addr) (n c : Nat) (b : List UInt8) (w : World) (hs : SlAt enc8 w A n c b) (hn : n ≤ 140737488355328) :
    Calls Try.prog 32 #[.slice A n c] w (RetDec w b) := by
  refine hide_post fun R hR => ?_
  have HS := Hd.mk hs; clear hs
  have HN := Hd.mk hn; clear hn
  by_cases h256 : n = 256
  · subst h256
    have hl := Hd.mk HS.out.len
    by_cases hop : openOk b
    · have hop := Hd.mk hop
      go_enter Try.func32, Try.ntmps32
      go_wp2_with fail
      obtain ⟨W0, hW0⟩ : ∃ W0, w.alloc (Obj.cells zcs 25) = W0 := ⟨_, rfl⟩
      have hk0 : Hd (Ext w W0) := ⟨by rw [← hW0]; exact (ext_refl w).alloc _⟩
      have hb0 : Hd (W0.heap[w.heap.size]? = some (.cells zcs 25 (0, 0))) := ⟨by rw [← hW0]; exact heap_alloc_new w _⟩
      have hlt0 : Hd (w.heap.size < W0.heap.size) := ⟨(Array.getElem?_eq_some_iff.1 hb0.out).1⟩
      rw [hW0]
      clear hW0
      obtain ⟨gr, hgr⟩ : ∃ gr, w.heap.size = gr := ⟨_, rfl⟩
      rw [hgr] at hb0 hlt0 ⊢
      have hgr := Hd.mk hgr
      refine (open_any A 256 c b W0 (HS.out.ext hk0.out) (by omega)).mono ?_
      rintro e w1 ⟨hk1, hyes, -⟩
      obtain ⟨A1, c1, rfl, ho1⟩ := hyes hop.out
      clear hyes
      rw [show b.length - 4 = 252 by have := hl.out; omega] at ho1 ⊢
      have hk1 := Hd.mk hk1
      have ho1 := Hd.mk ho1
      have hl2 : Hd ((b.take 252).length = 252) := ⟨by rw [List.length_take]; have := hl.out; omega⟩
      go_wp2_with fail
      refine (rof_any A1 252 c1 (b.take 252) w1 ho1.out.sl (by omega)).mono ?_
      rintro e w2 ⟨g, rfl, hg, hr, hk2⟩
      have hk2 := Hd.mk hk2
      have hr := Hd.mk hr
      have hg := Hd.mk hg
      go_wp2_with fail
      refine (pnode_any g (b.take 252, 0) w2 hr.out (by simp only; have := hl2.out; omega)).mono ?_
      rintro e w3 ⟨A4, n4, c4, A5, n5, c5, A6, n6, c6, rfl, hnd, hk3, hnw⟩
      have hnw := Hd.mk hnw
      have hgr2 : Hd (gr < w2.heap.size) := ⟨by have := hk1.out.size; have := hk2.out.size; have := hlt0.out; omega⟩
      have hK3 : Hd (Ext W0 w3) := ⟨(hk1.out.then' hk2.out).trans hk3 (fun k hk e => by have := hg.out; have := hk1.out.size; omega)⟩
      clear hk3 hr hg hk2 ho1 hk1
      have hpage : Hd (∀ m, pageOf b m → nodeP (b.take 252, 0) = m) := ⟨fun m hm => nodeP_page hm⟩
      generalize nodeP (b.take 252, 0) = nd at hnd hpage hnw ⊢
      have hnd := Hd.mk hnd
      obtain ⟨level, lsn, right, high, keys, vals, kids⟩ := nd
      simp only [ndV]
      go_wp2_with fail
      obtain ⟨W4, hW4, hk4, hc0, hc1, hc2, hc3, hc4, hc5, hc6, hb4⟩ := nd_box w3 level lsn right high A4 n4 c4 A5 n5 c5 A6 n6 c6
      rw [hW4]
      clear hW4
      refine (encode_any _ _ _ _ _ _ _ _ _ _ W4 (hnd.out.ext hk4.out)).mono ?_
      rintro e w5 ⟨hk5, hyes, hnot⟩
      have hk5 := Hd.mk hk5
      have hb5 := hk5.out.blk hb4 id
      have hnd5 := Hd.mk ((hnd.out.ext hk4.out).ext hk5.out)
      have hK5 := Hd.mk ((hK3.out.then' hk4.out).then' hk5.out)
      clear hb4 hc0 hc1 hc2 hc3 hc4 hc5 hc6 hk4 hk5 hK3 hnd
      obtain ⟨hc0, hc1, hc2, hc3, hc4, hc5, hc6⟩ := nd_facts hb5
      clear hb5
      cases hok : okB ⟨level, lsn, right, high, keys, vals, kids⟩ with
      | false =>
        obtain rfl := hnot hok
        have hno : Hd (∀ m, ¬ pageOf b m) := ⟨fun m hm => by have := hpage.out m hm; rw [this] at hok; rw [hm.1] at hok; cases hok⟩
        clear hyes hnot hok hpage
        have hbr := hK5.out.blk hb0.out id
        obtain ⟨hp0, hp1, hp2, hp3, hp4, hp5, hp6, hf0, hf1, hf2, hf3, hf4, hf5, hf6⟩ := z_facts hbr
        have hbr := Hd.mk hbr
        go_wp2_with fail
        obtain ⟨V9, hV9⟩ : ∃ V9, ((((((w5.setCell ⟨gr, 0, none⟩ (.int .i64 0)).setCell ⟨gr, 1, none⟩ (.int .i64 0)).setCell ⟨gr, 2, none⟩ (.int .i64 0)).setCell ⟨gr, 3, none⟩ (.string ⟨#[]⟩)).setCell ⟨gr, 4, none⟩ (.slice none 0 0)).setCell ⟨gr, 5, none⟩ (.slice none 0 0)).setCell ⟨gr, 6, none⟩ (.slice none 0 0) = V9 := ⟨_, rfl⟩
        have hch := chain7 hbr.out _ _ _ _ _ _ _ hV9
        rw [hV9]
        clear hV9 hp0 hp1 hp2 hp3 hp4 hp5 hp6 hf0 hf1 hf2 hf3 hf4 hf5 hf6
        obtain ⟨he0, he1, he2, he3, he4, he5, he6⟩ := nd_facts hch.1
        have hk9 := Hd.mk hch.2
        clear hch
        refine bodyPost_ret (v := .tuple #[ndV zNd none 0 0 none 0 0 none 0 0, .int .i64 60]) (by simp [results, Try.results32, go_sem, he0, he1, he2, he3, he4, he5, he6, zNd]) rfl ?_
        exact hR.out _ _ (.no hno.out ((hk0.out.then' hK5.out).trans hk9.out (fun k hk e => by have := hgr.out; omega)))
      | true =>
        obtain ⟨A7, c7, rfl, ho7⟩ := hyes hok
        have ho7 := Hd.mk ho7
        have hok := Hd.mk hok
        clear hyes hnot
        go_wp2_with fail
        refine (equal8_any A7 256 c7 _ A 256 c b w5 ho7.out.sl (HS.out.ext (hk0.out.then' hK5.out)) (by omega)).mono ?_
        rintro e w6 ⟨rfl, hk6⟩
        have hk6 := Hd.mk hk6
        have hK6 := Hd.mk (hK5.out.then' hk6.out)
        have hbr := hK6.out.blk hb0.out id
        obtain ⟨hp0, hp1, hp2, hp3, hp4, hp5, hp6, hf0, hf1, hf2, hf3, hf4, hf5, hf6⟩ := z_facts hbr
        have hbr := Hd.mk hbr
        have hcc := Hd.mk (And.intro hc0 (And.intro hc1 (And.intro hc2 (And.intro hc3 (And.intro hc4 (And.intro hc5 hc6))))))
        clear hc0 hc1 hc2 hc3 hc4 hc5 hc6
        have hc0 := hk6.out.cell hcc.out.1 id
        have hc1 := hk6.out.cell hcc.out.2.1 id
        have hc2 := hk6.out.cell hcc.out.2.2.1 id
        have hc3 := hk6.out.cell hcc.out.2.2.2.1 id
        have hc4 := hk6.out.cell hcc.out.2.2.2.2.1 id
        have hc5 := hk6.out.cell hcc.out.2.2.2.2.2.1 id
        have hc6 := hk6.out.cell hcc.out.2.2.2.2.2.2 id
        by_cases heq : encB ⟨level, lsn, right, high, keys, vals, kids⟩ = b
        · rw [decide_eq_true heq]
          have heq := Hd.mk heq
          go_wp2_with fail
          obtain ⟨V9, hV9⟩ : ∃ V9, ((((((w6.setCell ⟨gr, 0, none⟩ (.int .i64 level)).setCell ⟨gr, 1, none⟩ (.int .i64 lsn)).setCell ⟨gr, 2, none⟩ (.int .i64 right)).setCell ⟨gr, 3, none⟩ (.string high)).setCell ⟨gr, 4, none⟩ (.slice A4 n4 c4)).setCell ⟨gr, 5, none⟩ (.slice A5 n5 c5)).setCell ⟨gr, 6, none⟩ (.slice A6 n6 c6) = V9 := ⟨_, rfl⟩
          have hch := chain7 hbr.out _ _ _ _ _ _ _ hV9
          rw [hV9]
          clear hV9 hp0 hp1 hp2 hp3 hp4 hp5 hp6 hf0 hf1 hf2 hf3 hf4 hf5 hf6 hc0 hc1 hc2 hc3 hc4 hc5 hc6
          obtain ⟨he0, he1, he2, he3, he4, he5, he6⟩ := nd_facts hch.1
          have hk9 := Hd.mk hch.2
          clear hch
          refine bodyPost_ret (v := .tuple #[.agg #[.int .i64 level, .int .i64 lsn, .int .i64 right, .string high, .slice A4 n4 c4, .slice A5 n5 c5, .slice A6 n6 c6], .int .i64 0]) (by simp [results, Try.results32, go_sem, he0, he1, he2, he3, he4, he5, he6]) rfl ?_
          have hkk : Ext w V9 := (hk0.out.then' hK6.out).trans hk9.out (fun k hk e => by have := hgr.out; omega)
          refine hR.out _ _ ⟨⟨level, lsn, right, high, keys, vals, kids⟩, 0, A4, n4, c4, A5, n5, c5, A6, n6, c6, rfl, ?_, hkk, .yes ⟨hok.out, ?_, heq.out⟩⟩
          · exact ((hnd5.out.ext hk6.out).keepN hnw.out hk9.out (fun k h => by have := hgr2.out; omega))
          · have := hnd5.out.b4; have := hnd5.out.keys.len; omega
        · rw [decide_eq_false heq]
          have hno : Hd (∀ m, ¬ pageOf b m) := ⟨fun m hm => by have := hpage.out m hm; rw [this] at heq; exact heq hm.2.2⟩
          clear heq hpage
          go_wp2_with fail
          obtain ⟨V9, hV9⟩ : ∃ V9, ((((((w6.setCell ⟨gr, 0, none⟩ (.int .i64 0)).setCell ⟨gr, 1, none⟩ (.int .i64 0)).setCell ⟨gr, 2, none⟩ (.int .i64 0)).setCell ⟨gr, 3, none⟩ (.string ⟨#[]⟩)).setCell ⟨gr, 4, none⟩ (.slice none 0 0)).setCell ⟨gr, 5, none⟩ (.slice none 0 0)).setCell ⟨gr, 6, none⟩ (.slice none 0 0) = V9 := ⟨_, rfl⟩
          have hch := chain7 hbr.out _ _ _ _ _ _ _ hV9
          rw [hV9]
          clear hV9 hp0 hp1 hp2 hp3 hp4 hp5 hp6 hf0 hf1 hf2 hf3 hf4 hf5 hf6
          obtain ⟨he0, he1, he2, he3, he4, he5, he6⟩ := nd_facts hch.1
          have hk9 := Hd.mk hch.2
          clear hch
          refine bodyPost_ret (v := .tuple #[ndV zNd none 0 0 none 0 0 none 0 0, .int .i64 60]) (by simp [results, Try.results32, go_sem, he0, he1, he2, he3, he4, he5, he6, zNd]) rfl ?_
          exact hR.out _ _ (.no hno.out ((hk0.out.then' hK6.out).trans hk9.out (fun k hk e => by have := hgr.out; omega)))
    · have hno : Hd (∀ m, ¬ pageOf b m) := ⟨fun m hm => hop (pageOf_raw hm).1⟩
      have hop := Hd.mk hop
      go_enter Try.func32, Try.ntmps32
      go_wp2_with fail
      obtain ⟨W0, hW0⟩ : ∃ W0, w.alloc (Obj.cells zcs 25) = W0 := ⟨_, rfl⟩
      have hk0 : Hd (Ext w W0) := ⟨by rw [← hW0]; exact (ext_refl w).alloc _⟩
      have hb0 : Hd (W0.heap[w.heap.size]? = some (.cells zcs 25 (0, 0))) := ⟨by rw [← hW0]; exact heap_alloc_new w _⟩
      have hlt0 : Hd (w.heap.size < W0.heap.size) := ⟨(Array.getElem?_eq_some_iff.1 hb0.out).1⟩
      rw [hW0]
      clear hW0
      obtain ⟨gr, hgr⟩ : ∃ gr, w.heap.size = gr := ⟨_, rfl⟩
      rw [hgr] at hb0 hlt0 ⊢
      have hgr := Hd.mk hgr
      refine (open_any A 256 c b W0 (HS.out.ext hk0.out) (by omega)).mono ?_
      rintro e w1 ⟨hk1, -, hnot⟩
      obtain rfl := hnot hop.out
      have hK1 := Hd.mk hk1
      clear hk1
      obtain ⟨x, hx⟩ : ∃ x : Int, (if b.length < 4 then 10 else 20 : Int) = x := ⟨_, rfl⟩
      have hx0 : (x != 0) = true := by rw [← hx]; split <;> decide
      rw [hx]
      clear hx
      have hbr := hK1.out.blk hb0.out id
      obtain ⟨hp0, hp1, hp2, hp3, hp4, hp5, hp6, hf0, hf1, hf2, hf3, hf4, hf5, hf6⟩ := z_facts hbr
      have hbr := Hd.mk hbr
      go_wp2_with fail
      obtain ⟨V9, hV9⟩ : ∃ V9, ((((((w1.setCell ⟨gr, 0, none⟩ (.int .i64 0)).setCell ⟨gr, 1, none⟩ (.int .i64 0)).setCell ⟨gr, 2, none⟩ (.int .i64 0)).setCell ⟨gr, 3, none⟩ (.string ⟨#[]⟩)).setCell ⟨gr, 4, none⟩ (.slice none 0 0)).setCell ⟨gr, 5, none⟩ (.slice none 0 0)).setCell ⟨gr, 6, none⟩ (.slice none 0 0) = V9 := ⟨_, rfl⟩
      have hch := chain7 hbr.out _ _ _ _ _ _ _ hV9
      rw [hV9]
      clear hV9 hp0 hp1 hp2 hp3 hp4 hp5 hp6 hf0 hf1 hf2 hf3 hf4 hf5 hf6
      obtain ⟨he0, he1, he2, he3, he4, he5, he6⟩ := nd_facts hch.1
      have hk9 := Hd.mk hch.2
      clear hch
      refine bodyPost_ret (v := .tuple #[ndV zNd none 0 0 none 0 0 none 0 0, .int .i64 60]) (by simp [results, Try.results32, go_sem, he0, he1, he2, he3, he4, he5, he6, zNd]) rfl ?_
      exact hR.out _ _ (.no hno.out ((hk0.out.then' hK1.out).trans hk9.out (fun k hk e => by have := hgr.out; omega)))
  · have hno : Hd (∀ m, ¬ pageOf b m) := ⟨fun m hm => by have := pageOf_len hm; have := HS.out.len; omega⟩
    have hd : ((n : Int) != 256) = true := by rw [bne_iff_ne]; omega
    have h256 := Hd.mk h256
    go_enter Try.func32, Try.ntmps32
    go_wp2_with fail
    obtain ⟨W0, hW0⟩ : ∃ W0, w.alloc (Obj.cells zcs 25) = W0 := ⟨_, rfl⟩
    have hk0 : Hd (Ext w W0) := ⟨by rw [← hW0]; exact (ext_refl w).alloc _⟩
    have hb0 : Hd (W0.heap[w.heap.size]? = some (.cells zcs 25 (0, 0))) := ⟨by rw [← hW0]; exact heap_alloc_new w _⟩
    have hlt0 : Hd (w.heap.size < W0.heap.size) := ⟨(Array.getElem?_eq_some_iff.1 hb0.out).1⟩
    rw [hW0]
    clear hW0
    obtain ⟨gr, hgr⟩ : ∃ gr, w.heap.size = gr := ⟨_, rfl⟩
    rw [hgr] at hb0 hlt0 ⊢
    have hgr := Hd.mk hgr
    obtain ⟨hp0, hp1, hp2, hp3, hp4, hp5, hp6⟩ := nd_facts hb0.out
    refine bodyPost_ret (v := .tuple #[ndV zNd none 0 0 none 0 0 none 0 0, .int .i64 60]) (by simp [results, Try.results32, go_sem, hp0, hp1, hp2, hp3, hp4, hp5, hp6, zNd]) rfl ?_
    exact hR.out _ _ (.no hno.out hk0.out)
end Go.Proofs.Ythpfkdaijiaalaa
