/- A node's page is written: by the code. -/
import Derived.Test.YthpfkdaijiaalaaS
import Derived.Laws.CopyOwn
import Derived.Deep.RegionLaw
namespace Go.Proofs.Ythpfkdaijiaalaa
open Go.RowKit

/-- A call of one argument as a step of a region that draws. -/
theorem step_call1 {P : Program} {ops : Array Oper} {o : Oper} {a : Act} {w : World} {K : Act → World → Prop} {Q : Exit → Act → World → Prop} {E : Prop} (hgd : o.guard = none) (f : FuncId) {fn : Func} (hfn : P.funcs[f]? = some fn) (hnm : (fn.name == "runtime.NumGoroutine") = false) (hbd : fn.body.isNone = false) (x : Operand) (t : TypeId)
    (ho : o.op = .call { callee := .value (.func f), args := #[x], argTypes := #[t] }) (v : Value) (hx : a.eval x = v) {R : Ending → World → Prop} (hC : Calls P f #[v] w R)
    (h : ∀ e w', R e w' → ∃ r, e = .returned r ∧ K (a.put o.dst r) w') :
    if Region.wanted o (yielded ops a.tmps) = true then Oper.wp P o a w K Q else E := by
  have hw : Region.wanted o (yielded ops a.tmps) = true := by simp [Region.wanted, hgd]
  rw [if_pos hw]
  unfold Oper.wp
  have hrun : (execOp a.eval o).run P w = .ok (.enter f #[v]) w := by
    have hf : a.eval (.func f) = .func (.func f) #[] #[] := rfl
    simp only [beq_eq_false_iff_ne, ne_eq] at hnm
    simp [execOp, ho, resolve, invoke, hx, hf, Deferred.ofValue, callFunc, hfn, hnm]
    intro h0
    rw [h0] at hbd; cases hbd
  rw [hrun, Oper.upon_enter]
  exact hC.mono (fun e w' h' => by obtain ⟨r, rfl, hk⟩ := h _ _ h'; exact hk)

/-- Where the node's writer stands. -/
structure St (w V : World) (B : Nat) (o : Obj) (bs : List UInt8) : Prop where
  ext : Ext w V
  box : V.heap[w.heap.size]? = some o
  wr : Wr B V B bs
  lt : w.heap.size < B
theorem St.step {w V V' : World} {B : Nat} {o : Obj} {bs bs' : List UInt8} (h : St w V B o bs) (hw : Wr B V' B bs') (hk : Keep (fun k => B ≤ k) V V') : St w V' B o bs' :=
  ⟨h.ext.trans hk (fun k hk' hb => by have := h.lt; omega), hk.blk h.box (by have := h.lt; omega), hw, h.lt⟩

theorem St.alloc {w V : World} {B : Nat} {o : Obj} {bs : List UInt8} (h : St w V B o bs) (o' : Obj) : St w (V.alloc o') B o bs :=
  have k := (ext_refl V).alloc o'
  ⟨h.ext.then' k, k.blk h.box id, h.wr.ext k, h.lt⟩
theorem Try.zeros127 : Obj.cells Try.zeroCells127 127 = .cells (List.replicate 252 (Value.int .u8 0)).toArray 127 (0, 0) := by kernel_rfl
theorem Try.size5 : (Try.prog.info? 5).map (·.size) = some 1 := by kernel_rfl
theorem copy_len {raw : List UInt8} {L : Nat} (h : raw.length = L) (hl : L ≤ 252) : (flat enc8 raw).length = Nat.min L 252 := by
  rw [flat_len (sz := 1) (fun _ => rfl)]; show raw.length * 1 = min L 252; omega
theorem copy_fit {raw : List UInt8} {L : Nat} (h : raw.length = L) (hl : L ≤ 252) : 0 + (flat enc8 raw).length ≤ (List.replicate 252 (Value.int .u8 0)).length := by
  rw [flat_len (sz := 1) (fun _ => rfl), List.length_replicate]; omega
theorem copy_one {raw : List UInt8} : ∀ v ∈ flat enc8 raw, v.oneCell' = true := by
  intro v hv
  simp only [flat, List.mem_flatMap, enc8, List.mem_singleton] at hv
  obtain ⟨x, _, rfl⟩ := hv
  rfl

theorem flat_rep (m : Nat) : flat enc8 (List.replicate m (0 : UInt8)) = List.replicate m (Value.int .u8 0) := by
  induction m with
  | zero => rfl
  | succ m ih => rw [List.replicate_succ, List.replicate_succ, ← ih]; rfl
theorem pad_row {raw : List UInt8} (h : raw.length ≤ 252) : splice (List.replicate 252 (Value.int .u8 0)) 0 (flat enc8 raw) = flat enc8 (padB raw) := by
  have hl := flat_len (enc := enc8) (sz := 1) (fun _ => rfl) raw
  rw [padB, flat_append, flat_rep, splice, hl, List.drop_replicate, List.take_zero, List.nil_append]
  congr 2; omega
theorem row_sl {w : World} {G t n : Nat} {xs : List UInt8} (h : w.heap[G]? = some (.cells (flat enc8 xs).toArray t (0, 0))) (hl : xs.length = n) (hn : n ≤ 9223372036854775807 := by omega) : SlAt enc8 w (some ⟨G, 0, none⟩) n n xs := by
  refine ⟨hl, Nat.le_refl _, hn, (fun h => by cases h), fun _ => ⟨_, rfl, fun j u hj => ?_⟩⟩
  rw [add_plain, cell_of_row w G _ _ t (0, 0) h]
  simpa using hj

def RetEnc (w : World) (n : Nd) (e : Ending) (w' : World) : Prop :=
  Ext w w' ∧ (okB n = true → ∃ A c, e = .returned (.tuple #[.slice A 256 c, .int .i64 0]) ∧ Own enc8 1 5 w.heap.size w' A 256 c (encB n)) ∧
    (okB n = false → e = .returned (.tuple #[.slice none 0 0, .int .i64 60]))

set_option maxRecDepth 100000 in
set_option maxHeartbeats 4000000 in
theorem encode_any (n : Nd) (A4 : Option Addr) (n4 c4 : Nat) (A5 : Option Addr) (n5 c5 : Nat) (A6 : Option Addr) (n6 c6 : Nat) (w : World) (h : NdAt w n A4 n4 c4 A5 n5 c5 A6 n6 c6) :
    Calls Try.prog 30 #[ndV n A4 n4 c4 A5 n5 c5 A6 n6 c6] w (RetEnc w n) := by
  refine hide_post fun R hR => ?_
  have H := Hd.mk h; clear h
  have l4 := Hd.mk H.out.keys.len
  have l5 := Hd.mk H.out.vals.len
  have l6 := Hd.mk H.out.kids.len
  have hfit : Hd (okB n = true → Fit n) := ⟨fun h => okB_fit h (by have := H.out.b4; have := l4.out; omega)⟩
  obtain ⟨level, lsn, right, high, keys, vals, kids⟩ := n
  obtain ⟨N, hN⟩ : ∃ N, (⟨level, lsn, right, high, keys, vals, kids⟩ : Nd) = N := ⟨_, rfl⟩
  simp only [ndV]
  cases hok : okB ⟨level, lsn, right, high, keys, vals, kids⟩ with
  | false =>
    have hE := Hd.mk (okE_not hok)
    have hok := Hd.mk hok
    go_enter Try.func30, Try.ntmps30
    go_wp2_with fail
    obtain ⟨W, hW, hk, hc0, hc1, hc2, hc3, hc4, hc5, hc6, hb⟩ := nd_box w level lsn right high A4 n4 c4 A5 n5 c5 A6 n6 c6
    rw [hW]
    clear hW
    refine (check_any _ _ _ _ _ _ _ _ _ _ _ (H.out.ext hk.out)).mono ?_
    rintro e W2 ⟨rfl, hk2⟩
    have hk2 := Hd.mk hk2
    rw [hE.out]
    go_wp2_with fail
    exact hR.out _ _ ⟨hk.out.then' hk2.out, fun h => (by rw [hok.out] at h; cases h), fun _ => rfl⟩
  | true =>
    have hE := Hd.mk (okE_yes hok)
    have F := Hd.mk (hfit.out hok)
    have hok := Hd.mk hok
    clear hfit
    go_enter Try.func30, Try.ntmps30
    go_wp2_with fail
    obtain ⟨W, hW, hk, hc0, hc1, hc2, hc3, hc4, hc5, hc6, hb⟩ := nd_box w level lsn right high A4 n4 c4 A5 n5 c5 A6 n6 c6
    rw [hW]
    clear hW
    refine (check_any _ _ _ _ _ _ _ _ _ _ _ (H.out.ext hk.out)).mono ?_
    rintro e W2 ⟨rfl, hk2⟩
    rw [hE.out]
    have hb2 := hk2.blk hb id
    have hk2 := Hd.mk hk2
    go_wp2_with fail
    refine (wnew_any _).mono ?_
    rintro e V ⟨rfl, hwr, hk3⟩
    obtain ⟨B, hB⟩ : ∃ B, W2.heap.size = B := ⟨_, rfl⟩
    rw [hB] at hwr ⊢
    have hst : Hd (St w V B (.cells #[.int .i64 level, .int .i64 lsn, .int .i64 right, .string high, .slice A4 n4 c4, .slice A5 n5 c5, .slice A6 n6 c6] 25 (0, 0)) []) :=
      ⟨⟨(hk.out.then' hk2.out).then' hk3, hk3.blk hb2 id, hwr, by have := (Array.getElem?_eq_some_iff.1 hb2).1; omega⟩⟩
    clear hwr hk3 hb2 hb hc0 hc1 hc2 hc3 hc4 hc5 hc6
    have F0 := F.out.level0
    have F1 := F.out.level
    have F2 := F.out.lsn0
    have F3 := F.out.lsn
    have F4 := F.out.right0
    have F5 := F.out.right
    have F6 := F.out.many.1
    have F7 := F.out.high
    (try simp only at F0 F1 F2 F3 F4 F5 F6 F7)
    have l4' := l4.out
    (try simp only at l4')
    obtain ⟨hc0, hc1, hc2, hc3, hc4, hc5, hc6⟩ := nd_facts hst.out.box
    go_wp2_with fail
    refine (wnum_ok B B [] level 1 rfl F0 (by omega) (fun _ => by omega) V hst.out.wr (by simp)).mono ?_
    rintro e V1 ⟨rfl, hw1, hk1⟩
    have hst1 := Hd.mk (hst.out.step hw1 hk1)
    clear hw1 hk1 hc0 hc1 hc2 hc3 hc4 hc5 hc6 hst
    obtain ⟨hc0, hc1, hc2, hc3, hc4, hc5, hc6⟩ := nd_facts hst1.out.box
    go_wp2_with fail
    refine (wnum_ok B B _ lsn 8 rfl F2 (by omega) (fun _ => by omega) V1 hst1.out.wr (by simp [leB_len])).mono ?_
    rintro e V2 ⟨rfl, hw1, hk1⟩
    have hst2 := Hd.mk (hst1.out.step hw1 hk1)
    clear hw1 hk1 hc0 hc1 hc2 hc3 hc4 hc5 hc6 hst1
    obtain ⟨hc0, hc1, hc2, hc3, hc4, hc5, hc6⟩ := nd_facts hst2.out.box
    go_wp2_with fail
    refine (wnum_ok B B _ right 4 rfl F4 (by omega) (fun _ => by omega) V2 hst2.out.wr (by simp [leB_len])).mono ?_
    rintro e V3 ⟨rfl, hw1, hk1⟩
    have hst3 := Hd.mk (hst2.out.step hw1 hk1)
    clear hw1 hk1 hc0 hc1 hc2 hc3 hc4 hc5 hc6 hst2
    obtain ⟨hc0, hc1, hc2, hc3, hc4, hc5, hc6⟩ := nd_facts hst3.out.box
    go_wp2_with fail
    refine (wnum_ok B B _ n4 2 rfl (by omega) (by omega) (fun _ => by omega) V3 hst3.out.wr (by simp [leB_len])).mono ?_
    rintro e V4 ⟨rfl, hw1, hk1⟩
    have hst4 := Hd.mk (hst3.out.step hw1 hk1)
    clear hw1 hk1 hc0 hc1 hc2 hc3 hc4 hc5 hc6 hst3
    obtain ⟨hc0, hc1, hc2, hc3, hc4, hc5, hc6⟩ := nd_facts hst4.out.box
    go_wp2_with fail
    refine (wtext_ok B B _ high (by omega) V4 hst4.out.wr (by simp [leB_len])).mono ?_
    rintro e V5 ⟨rfl, hw1, hk1⟩
    have hst5 : Hd (St w V5 B (.cells #[.int .i64 level, .int .i64 lsn, .int .i64 right, .string high, .slice A4 n4 c4, .slice A5 n5 c5, .slice A6 n6 c6] 25 (0, 0)) (headL ⟨level, lsn, right, high, keys, vals, kids⟩)) :=
      ⟨by have := hst4.out.step hw1 hk1; simpa [headL, l4', textB] using this⟩
    clear hw1 hk1 hc0 hc1 hc2 hc3 hc4 hc5 hc6 hst4
    obtain ⟨hc0, hc1, hc2, hc3, hc4, hc5, hc6⟩ := nd_facts hst5.out.box
    by_cases hl : level = 0
    · subst hl
      have hkn : kids = [] := (F.out.leaf rfl).2.1
      subst hkn
      obtain rfl : n6 = 0 := by have := l6.out; simpa using this.symm
      go_wp2_with fail
      go_loopg [41] 0 (fun k' v41 wr => ∃ (i : Nat) (V : World), V = wr ∧ Hd (i ≤ 0 ∧ k' = 0 - i) ∧ v41 = .int .i64 i ∧ Hd (St w V B (.cells #[.int .i64 0, .int .i64 lsn, .int .i64 right, .string high, .slice A4 n4 c4, .slice A5 n5 c5, .slice A6 0 c6] 25 (0, 0)) (headL ⟨0, lsn, right, high, keys, vals, []⟩ ++ kidsB keys [] i)))
      case atStart => exact ⟨0, _, rfl, ⟨by omega⟩, rfl, ⟨by simpa [kidsB] using hst5.out⟩⟩
      case round =>
        obtain ⟨i, V, rfl, hi, rfl, hst⟩ := hrel
        clear hc0 hc1 hc2 hc3 hc4 hc5 hc6 hst5
        obtain ⟨hc0, hc1, hc2, hc3, hc4, hc5, hc6⟩ := nd_facts hst.out.box
        by_cases hlt : (i : Int) < (0 : Int)
        · omega
        · have hki : Hd (i = 0) := ⟨by have := hi.out; omega⟩
          go_wp2_with fail
          go_loopg [63] n5 (fun k' v63 wr => ∃ (i : Nat) (V : World), V = wr ∧ Hd (i ≤ n5 ∧ k' = n5 - i) ∧ v63 = .int .i64 i ∧ Hd (St w V B (.cells #[.int .i64 0, .int .i64 lsn, .int .i64 right, .string high, .slice A4 n4 c4, .slice A5 n5 c5, .slice A6 0 c6] 25 (0, 0)) (headL ⟨0, lsn, right, high, keys, vals, []⟩ ++ leafB keys vals i)))
          case atStart => exact ⟨0, _, rfl, ⟨by omega⟩, rfl, ⟨by have h := hst.out; rw [hki.out] at h; simpa [leafB, kidsB] using h⟩⟩
          case round =>
            obtain ⟨j, V, rfl, hj, rfl, hst⟩ := hrel
            clear hc0 hc1 hc2 hc3 hc4 hc5 hc6
            obtain ⟨hc0, hc1, hc2, hc3, hc4, hc5, hc6⟩ := nd_facts hst.out.box
            by_cases hlt2 : (j : Int) < (n5 : Int)
            · have hg : vals[j]? = some (vals[j]'(by have := l5.out; (try simp only at this); omega)) := List.getElem?_eq_getElem _
              obtain ⟨ad, rfl, hcell0⟩ := (H.out.ext hst.out.ext).vals.at_ (sz := 1) (fun _ => rfl) j _ hg
              have hcell := hcell0 0 _ rfl
              simp only [Nat.mul_one, Nat.add_zero] at hcell
              clear hcell0
              have hvs := (F.out.leaf rfl).2.2 _ (List.mem_of_getElem? hg)
              have htv := Hd.mk (txt_get hg)
              generalize vals[j]'_ = v at hg hcell hvs htv
              have hi117 : j ≤ 117 := by have := F.out.many.2.1; have := l5.out; (try simp only at *); omega
              have hlen : Hd ((leafB keys vals j).length ≤ 6084) := ⟨Nat.le_trans (leafB_le (fun k hk => (F.out.keys k hk).2) (F.out.leaf rfl).2.2 j) (by omega)⟩
              have hhl : Hd ((headL ⟨0, lsn, right, high, keys, vals, []⟩).length ≤ 33) := ⟨by rw [Fit.head_len]; simp only; omega⟩
              have hgp : keys[j]? = some (keys[j]'(by have := l5.out; have := l4.out; have := (F.out.leaf rfl).1; (try simp only at *); omega)) := List.getElem?_eq_getElem _
              obtain ⟨ad', e', hcell0⟩ := (H.out.ext hst.out.ext).keys.at_ (sz := 1) (fun _ => rfl) j _ hgp
              subst e'
              have hcellp := hcell0 0 _ rfl
              simp only [Nat.mul_one, Nat.add_zero] at hcellp
              clear hcell0
              have hks := (F.out.keys _ (List.mem_of_getElem? hgp)).2
              have htx := Hd.mk (txt_get hgp)
              generalize keys[j]'_ = kp at hgp hcellp hks htx
              have hwl : (j : Int) < (n4 : Int) := by have := l5.out; have := l4.out; have := (F.out.leaf rfl).1; (try simp only at *); omega
              go_wp2_with fail
              refine (wtext_ok B B _ kp (by omega) V hst.out.wr (by have := hlen.out; have := hhl.out; rw [List.length_append]; omega)).mono ?_
              rintro e V1 ⟨rfl, hw1, hk1⟩
              have hst1 := Hd.mk (hst.out.step hw1 hk1)
              clear hw1 hk1
              go_wp2_with fail
              refine (wtext_ok B B _ v (by omega) V1 hst1.out.wr (by have := hlen.out; have := hhl.out; simp only [List.length_append, leB_len, ← size_list]; omega)).mono ?_
              rintro e V2 ⟨rfl, hw1, hk1⟩
              have hst2 := Hd.mk (hst1.out.step hw1 hk1)
              clear hw1 hk1
              go_wp2_with fail
              go_roundg (n5 - (j + 1))
              case measure => have := hj.out; omega
              case rel =>
                refine ⟨j + 1, _, rfl, ⟨by have := hj.out; omega⟩, by go_num, ⟨?_⟩⟩
                have e : headL ⟨0, lsn, right, high, keys, vals, []⟩ ++ leafB keys vals (j + 1) = (headL ⟨0, lsn, right, high, keys, vals, []⟩ ++ leafB keys vals j ++ (leB kp.size 2 ++ kp.toList)) ++ (leB v.size 2 ++ v.toList) := by
                  rw [leafB, htv.out, htx.out]; simp [textB]
                rw [e]; exact hst2.out
            · have hbs : Hd (headL ⟨0, lsn, right, high, keys, vals, []⟩ ++ leafB keys vals j = rawB ⟨0, lsn, right, high, keys, vals, []⟩) := ⟨by rw [rawB, bodyB, if_pos rfl]; simp only; rw [show j = vals.length by have := l5.out; have := hj.out; (try simp only at *); omega]⟩
              have hst := Hd.mk (show St w V B (.cells #[.int .i64 0, .int .i64 lsn, .int .i64 right, .string high, .slice A4 n4 c4, .slice A5 n5 c5, .slice A6 0 c6] 25 (0, 0)) (rawB ⟨0, lsn, right, high, keys, vals, []⟩) by rw [← hbs.out]; exact hst.out)
              have hrl : Hd ((rawB ⟨0, lsn, right, high, keys, vals, []⟩).length ≤ 252) := ⟨F.out.raw_le⟩
              generalize hraw0 : rawB ⟨0, lsn, right, high, keys, vals, []⟩ = raw at hst hrl
              have hraw := Hd.mk hraw0
              clear hbs hc0 hc1 hc2 hc3 hc4 hc5 hc6
              go_wp2_with fail
              obtain ⟨V2, hV2⟩ : ∃ V2, V.alloc (Obj.cells Try.zeroCells127 127) = V2 := ⟨_, rfl⟩
              obtain ⟨G, hG⟩ : ∃ G, V.heap.size = G := ⟨_, rfl⟩
              have hGr : V2.heap[G]? = some (.cells (List.replicate 252 (Value.int .u8 0)).toArray 127 (0, 0)) := by rw [← hV2, ← hG, ← Try.zeros127]; exact heap_alloc_new V _
              have hst2 := Hd.mk (hst.out.alloc (Obj.cells Try.zeroCells127 127))
              rw [hV2] at hst2 ⊢
              rw [hG]
              have hBG : Hd (B < G) := ⟨by have := hst.out.wr.row; obtain ⟨_, _, h, _⟩ := this; have := (Array.getElem?_eq_some_iff.1 h).1; omega⟩
              clear hV2 hG hst
              generalize hL : raw.length = L at hrl
              have hL := Hd.mk hL
              have hwrd := Hd.mk (hst2.out.wr.ext (ext_refl V2).drew)
              have hGd : Hd (V2.drew.heap[G]? = some (.cells (List.replicate 252 (Value.int .u8 0)).toArray 127 (0, 0))) := ⟨hGr⟩
              have hEd : Hd (Ext w V2.drew) := ⟨hst2.out.ext.drew⟩
              have hcall := Hd.mk (wbytes_any B B raw V2.drew hwrd.out (by have := hL.out; have := hrl.out; omega))
              have hcl := Hd.mk (copy_len hL.out hrl.out)
              have hcf := Hd.mk (copy_fit hL.out hrl.out)
              clear hGr
              go_region_law (first
                | (refine step_call1 (w := V2.drew) rfl 84 Try.func84 (by kernel_rfl) (by kernel_rfl) _ _ rfl (.pointer (some ⟨B, 0, none⟩)) rfl hcall.out ?_; rintro e w1 ⟨A1, c1, rfl, ho1, hk1⟩; refine ⟨_, rfl, ?_⟩; rw [hL.out] at ho1 ⊢; have hE1 : Hd (Ext w w1) := ⟨hEd.out.then' hk1⟩; have hG1 := Hd.mk (hk1.blk hGd.out id); have hS1 := Hd.mk ho1.sl; clear ho1 hk1)
                | (refine step_copy_splice rfl (.tmp 79) (.tmp 81) 31 31 rfl 5 Try.underlying31 Try.size5 (some ⟨G, 0, none⟩) _ 252 252 _ _ rfl rfl G 0 (List.replicate 252 (Value.int .u8 0)) 127 hG1.out (flat enc8 raw) hcl.out (fun hp => ⟨rfl, hS1.out.src (fun e => by rw [e] at hp; exact absurd hp (by simp))⟩) hcf.out copy_one G w1 (Below.refl _ _) (Nat.le_refl _) ?_; intro w4 hg4 hb4))
              have hrow : Hd (w4.heap[G]? = some (.cells (flat enc8 (padB raw)).toArray 127 (0, 0))) := ⟨by have h : _ = _ := hg4; rw [h, pad_row (by have := hL.out; have := hrl.out; omega)]⟩
              have hE4 : Hd (Ext w w4) := ⟨hE1.out.trans (T := fun k => G ≤ k) ⟨hb4.os, hb4.tape, hb4.output, hb4.size, fun k _ h => hb4.block k (by omega)⟩ (fun k hk h => by have := hBG.out; have := hst2.out.lt; omega)⟩
              have hp252 : Hd ((padB raw).length = 252) := ⟨padB_len (by have := hL.out; have := hrl.out; omega)⟩
              have h256 : Hd ((sealB (padB raw)).length = 256) := ⟨by rw [sealB_len, hp252.out]⟩
              clear hg4 hb4 hG1 hS1 hE1
              go_wp2_with fail
              refine (seal_any _ 252 252 (padB raw) w4 (row_sl hrow.out hp252.out) (by omega)).mono ?_
              rintro e w5 ⟨A7, c7, rfl, ho7, hk7⟩
              rw [h256.out] at ho7 ⊢
              have ho7 := Hd.mk ho7
              have hE5 := Hd.mk (hE4.out.then' hk7)
              go_wp2_with fail
              refine hR.out _ _ ⟨hE5.out, fun _ => ⟨A7, c7, rfl, ?_⟩, fun h => (by rw [hok.out] at h; cases h)⟩
              rw [encB, hraw.out]
              exact ho7.out.lower hE4.out.size
    · have hvn : vals = [] := (F.out.inner hl).2.1
      subst hvn
      obtain rfl : n5 = 0 := by have := l5.out; simpa using this.symm
      have hl := Hd.mk hl
      go_wp2_with fail
      go_loopg [41] n6 (fun k' v41 wr => ∃ (i : Nat) (V : World), V = wr ∧ Hd (i ≤ n6 ∧ k' = n6 - i) ∧ v41 = .int .i64 i ∧ Hd (St w V B (.cells #[.int .i64 level, .int .i64 lsn, .int .i64 right, .string high, .slice A4 n4 c4, .slice A5 0 c5, .slice A6 n6 c6] 25 (0, 0)) (headL ⟨level, lsn, right, high, keys, [], kids⟩ ++ kidsB keys kids i)))
      case atStart => exact ⟨0, _, rfl, ⟨by omega⟩, rfl, ⟨by simpa [kidsB] using hst5.out⟩⟩
      case round =>
        obtain ⟨i, V, rfl, hi, rfl, hst⟩ := hrel
        clear hc0 hc1 hc2 hc3 hc4 hc5 hc6 hst5
        obtain ⟨hc0, hc1, hc2, hc3, hc4, hc5, hc6⟩ := nd_facts hst.out.box
        by_cases hlt : (i : Int) < (n6 : Int)
        · have hg : kids[i]? = some (kids[i]'(by have := l6.out; (try simp only at this); omega)) := List.getElem?_eq_getElem _
          obtain ⟨ad, rfl, hcell0⟩ := (H.out.ext hst.out.ext).kids.at_ (sz := 1) (fun _ => rfl) i _ hg
          have hcell := hcell0 0 _ rfl
          simp only [Nat.mul_one, Nat.add_zero] at hcell
          clear hcell0
          have hkd := (F.out.inner hl.out).2.2 _ (List.mem_of_getElem? hg)
          have hnum := Hd.mk (num_get hg)
          generalize kids[i]'_ = k at hg hcell hkd hnum
          have hg := Hd.mk hg
          have hkd1 := hkd.1
          have hkd2 := hkd.2
          have hi117 : i ≤ 117 := by have := F.out.many.2.2; have := l6.out; (try simp only at *); omega
          have hlen : Hd ((kidsB keys kids i).length ≤ 2574) := ⟨Nat.le_trans (kidsB_le (fun k hk => (F.out.keys k hk).2) i) (by omega)⟩
          have hhl : Hd ((headL ⟨level, lsn, right, high, keys, [], kids⟩).length ≤ 33) := ⟨by rw [Fit.head_len]; simp only; omega⟩
          by_cases hi0 : 0 < (i : Int)
          · obtain ⟨m, hm⟩ : ∃ m, i - 1 = m := ⟨_, rfl⟩
            have hmi : m + 1 = i := by omega
            have hgp : keys[m]? = some (keys[m]'(by have := l6.out; have := l4.out; have := (F.out.inner hl.out).1; (try simp only at *); omega)) := List.getElem?_eq_getElem _
            obtain ⟨ad', e', hcell0⟩ := (H.out.ext hst.out.ext).keys.at_ (sz := 1) (fun _ => rfl) m _ hgp
            subst e'
            have hcellp := hcell0 0 _ rfl
            simp only [Nat.mul_one, Nat.add_zero] at hcellp
            clear hcell0
            have hks := (F.out.keys _ (List.mem_of_getElem? hgp)).2
            have htx := Hd.mk (txt_get hgp)
            generalize keys[m]'_ = kp at hgp hcellp hks htx
            have hwm : IntKind.i64.wrap ((i : Int) - 1) = (m : Int) := by rw [IntKind.wrap_i64]; omega
            have hwl : (m : Int) < (n4 : Int) := by have := l6.out; have := l4.out; have := (F.out.inner hl.out).1; (try simp only at *); omega
            have hwz : (0 : Int) ≤ (m : Int) := by omega
            go_wp2_with fail
            refine (wtext_ok B B _ kp (by omega) V hst.out.wr (by have := hlen.out; have := hhl.out; rw [List.length_append]; omega)).mono ?_
            rintro e V1 ⟨rfl, hw1, hk1⟩
            have hst1 := Hd.mk (hst.out.step hw1 hk1)
            obtain ⟨ad2, e2, hcell0⟩ := (H.out.ext hst1.out.ext).kids.at_ (sz := 1) (fun _ => rfl) i _ hg.out
            obtain rfl := Option.some.inj e2
            have hcell1 := hcell0 0 _ rfl
            simp only [Nat.mul_one, Nat.add_zero] at hcell1
            clear hcell0 hw1 hk1 hc0 hc1 hc2 hc3 hc4 hc5 hc6 hcellp hcell
            obtain ⟨hc0, hc1, hc2, hc3, hc4, hc5, hc6⟩ := nd_facts hst1.out.box
            go_wp2_with fail
            refine (wnum_ok B B _ k 4 rfl (by omega) (by omega) (fun _ => by omega) V1 hst1.out.wr (by have := hlen.out; have := hhl.out; simp only [List.length_append, leB_len, ← size_list]; omega)).mono ?_
            rintro e V2 ⟨rfl, hw1, hk1⟩
            have hst2 := Hd.mk (hst1.out.step hw1 hk1)
            clear hw1 hk1
            go_wp2_with fail
            go_roundg (n6 - (i + 1))
            case measure => have := hi.out; omega
            case rel =>
              refine ⟨i + 1, _, rfl, ⟨by have := hi.out; omega⟩, by go_num, ⟨?_⟩⟩
              have e : headL ⟨level, lsn, right, high, keys, [], kids⟩ ++ kidsB keys kids (i + 1) = (headL ⟨level, lsn, right, high, keys, [], kids⟩ ++ kidsB keys kids i ++ (leB kp.size 2 ++ kp.toList)) ++ leB k.toNat 4 := by
                rw [kidsB, if_neg (by omega), hnum.out, hm, htx.out]; simp [textB]
              rw [e]; exact hst2.out
          · have hiz : Hd (i = 0) := ⟨by omega⟩
            go_wp2_with fail
            refine (wnum_ok B B _ k 4 rfl (by omega) (by omega) (fun _ => by omega) V hst.out.wr (by have := hlen.out; have := hhl.out; simp only [List.length_append]; omega)).mono ?_
            rintro e V2 ⟨rfl, hw1, hk1⟩
            have hst2 := Hd.mk (hst.out.step hw1 hk1)
            clear hw1 hk1
            go_wp2_with fail
            go_roundg (n6 - (i + 1))
            case measure => have := hi.out; omega
            case rel =>
              refine ⟨i + 1, _, rfl, ⟨by have := hi.out; omega⟩, by go_num, ⟨?_⟩⟩
              have e : headL ⟨level, lsn, right, high, keys, [], kids⟩ ++ kidsB keys kids (i + 1) = (headL ⟨level, lsn, right, high, keys, [], kids⟩ ++ kidsB keys kids i) ++ leB k.toNat 4 := by
                rw [kidsB, if_pos hiz.out, hnum.out]; simp
              rw [e]; exact hst2.out
        · have hki : i = n6 := by have := hi.out; omega
          have hki := Hd.mk hki
          go_wp2_with fail
          go_loopg [63] 0 (fun k' v63 wr => ∃ (i : Nat) (V : World), V = wr ∧ Hd (i ≤ 0 ∧ k' = 0 - i) ∧ v63 = .int .i64 i ∧ Hd (St w V B (.cells #[.int .i64 level, .int .i64 lsn, .int .i64 right, .string high, .slice A4 n4 c4, .slice A5 0 c5, .slice A6 n6 c6] 25 (0, 0)) (headL ⟨level, lsn, right, high, keys, [], kids⟩ ++ kidsB keys kids n6)))
          case atStart => exact ⟨0, _, rfl, ⟨by omega⟩, rfl, ⟨by rw [hki.out] at hst; exact hst.out⟩⟩
          case round =>
            obtain ⟨j, V, rfl, hj, rfl, hst⟩ := hrel
            clear hc0 hc1 hc2 hc3 hc4 hc5 hc6
            obtain ⟨hc0, hc1, hc2, hc3, hc4, hc5, hc6⟩ := nd_facts hst.out.box
            by_cases hlt2 : (j : Int) < (0 : Int)
            · omega
            · have hbs : Hd (headL ⟨level, lsn, right, high, keys, [], kids⟩ ++ kidsB keys kids n6 = rawB ⟨level, lsn, right, high, keys, [], kids⟩) := ⟨by rw [rawB, bodyB, if_neg hl.out]; simp only; rw [show n6 = kids.length by have := l6.out; (try simp only at *); omega]⟩
              have hst := Hd.mk (show St w V B (.cells #[.int .i64 level, .int .i64 lsn, .int .i64 right, .string high, .slice A4 n4 c4, .slice A5 0 c5, .slice A6 n6 c6] 25 (0, 0)) (rawB ⟨level, lsn, right, high, keys, [], kids⟩) by rw [← hbs.out]; exact hst.out)
              have hrl : Hd ((rawB ⟨level, lsn, right, high, keys, [], kids⟩).length ≤ 252) := ⟨F.out.raw_le⟩
              generalize hraw0 : rawB ⟨level, lsn, right, high, keys, [], kids⟩ = raw at hst hrl
              have hraw := Hd.mk hraw0
              clear hbs hc0 hc1 hc2 hc3 hc4 hc5 hc6
              go_wp2_with fail
              obtain ⟨V2, hV2⟩ : ∃ V2, V.alloc (Obj.cells Try.zeroCells127 127) = V2 := ⟨_, rfl⟩
              obtain ⟨G, hG⟩ : ∃ G, V.heap.size = G := ⟨_, rfl⟩
              have hGr : V2.heap[G]? = some (.cells (List.replicate 252 (Value.int .u8 0)).toArray 127 (0, 0)) := by rw [← hV2, ← hG, ← Try.zeros127]; exact heap_alloc_new V _
              have hst2 := Hd.mk (hst.out.alloc (Obj.cells Try.zeroCells127 127))
              rw [hV2] at hst2 ⊢
              rw [hG]
              have hBG : Hd (B < G) := ⟨by have := hst.out.wr.row; obtain ⟨_, _, h, _⟩ := this; have := (Array.getElem?_eq_some_iff.1 h).1; omega⟩
              clear hV2 hG hst
              generalize hL : raw.length = L at hrl
              have hL := Hd.mk hL
              have hwrd := Hd.mk (hst2.out.wr.ext (ext_refl V2).drew)
              have hGd : Hd (V2.drew.heap[G]? = some (.cells (List.replicate 252 (Value.int .u8 0)).toArray 127 (0, 0))) := ⟨hGr⟩
              have hEd : Hd (Ext w V2.drew) := ⟨hst2.out.ext.drew⟩
              have hcall := Hd.mk (wbytes_any B B raw V2.drew hwrd.out (by have := hL.out; have := hrl.out; omega))
              have hcl := Hd.mk (copy_len hL.out hrl.out)
              have hcf := Hd.mk (copy_fit hL.out hrl.out)
              clear hGr
              go_region_law (first
                | (refine step_call1 (w := V2.drew) rfl 84 Try.func84 (by kernel_rfl) (by kernel_rfl) _ _ rfl (.pointer (some ⟨B, 0, none⟩)) rfl hcall.out ?_; rintro e w1 ⟨A1, c1, rfl, ho1, hk1⟩; refine ⟨_, rfl, ?_⟩; rw [hL.out] at ho1 ⊢; have hE1 : Hd (Ext w w1) := ⟨hEd.out.then' hk1⟩; have hG1 := Hd.mk (hk1.blk hGd.out id); have hS1 := Hd.mk ho1.sl; clear ho1 hk1)
                | (refine step_copy_splice rfl (.tmp 79) (.tmp 81) 31 31 rfl 5 Try.underlying31 Try.size5 (some ⟨G, 0, none⟩) _ 252 252 _ _ rfl rfl G 0 (List.replicate 252 (Value.int .u8 0)) 127 hG1.out (flat enc8 raw) hcl.out (fun hp => ⟨rfl, hS1.out.src (fun e => by rw [e] at hp; exact absurd hp (by simp))⟩) hcf.out copy_one G w1 (Below.refl _ _) (Nat.le_refl _) ?_; intro w4 hg4 hb4))
              have hrow : Hd (w4.heap[G]? = some (.cells (flat enc8 (padB raw)).toArray 127 (0, 0))) := ⟨by have h : _ = _ := hg4; rw [h, pad_row (by have := hL.out; have := hrl.out; omega)]⟩
              have hE4 : Hd (Ext w w4) := ⟨hE1.out.trans (T := fun k => G ≤ k) ⟨hb4.os, hb4.tape, hb4.output, hb4.size, fun k _ h => hb4.block k (by omega)⟩ (fun k hk h => by have := hBG.out; have := hst2.out.lt; omega)⟩
              have hp252 : Hd ((padB raw).length = 252) := ⟨padB_len (by have := hL.out; have := hrl.out; omega)⟩
              have h256 : Hd ((sealB (padB raw)).length = 256) := ⟨by rw [sealB_len, hp252.out]⟩
              clear hg4 hb4 hG1 hS1 hE1
              go_wp2_with fail
              refine (seal_any _ 252 252 (padB raw) w4 (row_sl hrow.out hp252.out) (by omega)).mono ?_
              rintro e w5 ⟨A7, c7, rfl, ho7, hk7⟩
              rw [h256.out] at ho7 ⊢
              have ho7 := Hd.mk ho7
              have hE5 := Hd.mk (hE4.out.then' hk7)
              go_wp2_with fail
              refine hR.out _ _ ⟨hE5.out, fun _ => ⟨A7, c7, rfl, ?_⟩, fun h => (by rw [hok.out] at h; cases h)⟩
              rw [encB, hraw.out]
              exact ho7.out.lower hE4.out.size
end Go.Proofs.Ythpfkdaijiaalaa
