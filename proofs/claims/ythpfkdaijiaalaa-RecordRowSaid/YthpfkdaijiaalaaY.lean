/- A node is read: by the code. -/
import Derived.Test.YthpfkdaijiaalaaX
import Derived.Test.YthpfkdaijiaalaaU
import Derived.Deep.DeepCutAuto
import Derived.Deep.RegionHeld3
namespace Go.Proofs.Ythpfkdaijiaalaa
open Go.RowKit

def RetN (w : World) (g : Nat) (r : Int × RSt) (e : Ending) (w' : World) : Prop := e = .returned (.int .i64 r.1) ∧ Rd w' g r.2.1 r.2.2 ∧ Keep (fun k => k = g) w w'
def RetT (w : World) (g : Nat) (r : ByteArray × RSt) (e : Ending) (w' : World) : Prop := e = .returned (.string r.1) ∧ Rd w' g r.2.1 r.2.2 ∧ Keep (fun k => k = g) w w'

theorem pnum_any (g : Nat) (s : RSt) (k : Nat) (hk : sizedB k = true) (w : World) (h : Rd w g s.1 s.2) :
    Calls Try.prog 127 #[.agg #[.pointer (some ⟨g, 0, none⟩)], .int .i64 k] w (RetN w g (rdN k s)) := by
  refine hide_post fun R hR => ?_
  have hk0 := (ext_refl w).alloc (.cells #[.pointer (some ⟨g, 0, none⟩)] 135)
  have HR := Hd.mk (h.keep hk0 (fun _ h => h.elim))
  have hk0 := Hd.mk hk0
  clear h
  go_enter Try.func127, Try.ntmps127
  go_wp2_with fail
  refine (rnum_any g s.1 s.2 k hk _ HR.out).mono ?_
  rintro e w1 ⟨rfl, hr1, hk1⟩
  have hr1 := Hd.mk hr1
  have hk1 : Hd (Keep (fun k => k = g) w w1) := ⟨(Keep.of_ext hk0.out).trans hk1 (fun _ _ h => h)⟩
  go_wp2_with fail
  exact hR.out _ _ ⟨rfl, hr1.out, hk1.out⟩
theorem ptext_any (g : Nat) (s : RSt) (w : World) (h : Rd w g s.1 s.2) (hm : s.1.length ≤ 140737488355328) :
    Calls Try.prog 128 #[.agg #[.pointer (some ⟨g, 0, none⟩)]] w (RetT w g (rdT 252 s)) := by
  refine hide_post fun R hR => ?_
  have hk0 := (ext_refl w).alloc (.cells #[.pointer (some ⟨g, 0, none⟩)] 135)
  have HR := Hd.mk (h.keep hk0 (fun _ h => h.elim))
  have hk0 := Hd.mk hk0
  have hm := Hd.mk hm
  clear h
  go_enter Try.func128, Try.ntmps128
  go_wp2_with fail
  refine (rtext_any g s.1 s.2 252 _ HR.out hm.out).mono ?_
  rintro e w1 ⟨rfl, hr1, hk1⟩
  have hr1 := Hd.mk hr1
  have hk1 : Hd (Keep (fun k => k = g) w w1) := ⟨(Keep.of_ext hk0.out).trans hk1 (fun _ _ h => h)⟩
  go_wp2_with fail
  exact hR.out _ _ ⟨rfl, hr1.out, hk1.out⟩

theorem Try.ES : Elt Try.prog 22 9 encS 1 16 := by
  refine ⟨Try.underlying22, ?_, by omega, fun _ => rfl, ?_⟩
  · have h : (Try.prog.info? 9).map (fun i => (i.zero, i.size, i.bytes)) = some (some (.string ⟨#[]⟩), 1, 16) := by kernel_rfl
    obtain ⟨i, hi, h1, h2, h3⟩ := info_parts h
    exact ⟨i, _, hi, h1, h2, h3, rfl⟩
  · intro x u hu; simp [encS] at hu; subst hu; rfl
theorem Try.EI : Elt Try.prog 23 3 encI 1 8 := by
  refine ⟨Try.underlying23, ?_, by omega, fun _ => rfl, ?_⟩
  · have h : (Try.prog.info? 3).map (fun i => (i.zero, i.size, i.bytes)) = some (some (.int .i64 0), 1, 8) := by kernel_rfl
    obtain ⟨i, hi, h1, h2, h3⟩ := info_parts h
    exact ⟨i, _, hi, h1, h2, h3, rfl⟩
  · intro x u hu; simp [encI] at hu; subst hu; rfl

/-- A call as a step of a region that draws. -/
theorem step_call {P : Program} {ops : Array Oper} {o : Oper} {a : Act} {w : World} {K : Act → World → Prop} {Q : Exit → Act → World → Prop} {E : Prop} (hgd : o.guard = none) (f : FuncId) {fn : Func} (hfn : P.funcs[f]? = some fn) (hnm : (fn.name == "runtime.NumGoroutine") = false) (hbd : fn.body.isNone = false) (xs : List Operand) (ts : Array TypeId)
    (ho : o.op = .call { callee := .value (.func f), args := xs.toArray, argTypes := ts }) (vs : List Value) (hx : xs.map a.eval = vs) {R : Ending → World → Prop} (hC : Calls P f vs.toArray w R)
    (h : ∀ e w', R e w' → ∃ r, e = .returned r ∧ K (a.put o.dst r) w') :
    if Region.wanted o (yielded ops a.tmps) = true then Oper.wp P o a w K Q else E := by
  have hw : Region.wanted o (yielded ops a.tmps) = true := by simp [Region.wanted, hgd]
  rw [if_pos hw]
  unfold Oper.wp
  have hrun : (execOp a.eval o).run P w = .ok (.enter f vs.toArray) w := by
    have hf : a.eval (.func f) = .func (.func f) #[] #[] := rfl
    simp only [beq_eq_false_iff_ne, ne_eq] at hnm
    simp [execOp, ho, resolve, invoke, hx, hf, Deferred.ofValue, callFunc, hfn, hnm]
    intro h0
    rw [h0] at hbd; cases hbd
  rw [hrun, Oper.upon_enter]
  exact hC.mono (fun e w' h' => by obtain ⟨r, rfl, hk⟩ := h _ _ h'; exact hk)

section
variable {P : Program} {α : Type} {enc : α → List Value} {t e : TypeId} {sz bytes : Nat}
variable {ops : Array Oper} {o : Oper} {a : Act} {K : Act → World → Prop} {Q : Exit → Act → World → Prop} {F : Prop}
/-- 'append(v, x)' of one element, as a step of a region that draws. -/
theorem step_push (E : Elt P t e enc sz bytes) {w : World} (hgd : o.guard = none) (s x : Operand) (ho : o.op = .call { callee := .builtin .append, args := #[s, x], argTypes := #[t, t] })
    {B : Nat} {A : Option Addr} {n c : Nat} {xs : List α} (hs : a.eval s = .slice A n c) (hown : Own enc sz e B w A n c xs) (y : α) (cs : Array Value) (hcs : cs.toList = enc y) (hx : a.eval x = .slice (some ⟨w.heap.size, 0, none⟩) 1 1)
    (hb : (n + 1) * bytes ≤ 140737488355328) (hmax : n + 1 ≤ 140737488355328) (hB : B ≤ w.heap.size)
    (h : ∀ A' c' w', Own enc sz e B w' A' (n + 1) c' (xs ++ [y]) → Keep (foot A c) w w' → (∀ k, foot A' c' k → foot A c k ∨ w.heap.size ≤ k) → K (a.put o.dst (.slice A' (n + 1) c')) w') :
    if Region.wanted o (yielded ops a.tmps) = true then Oper.wp P o a (w.alloc (.cells cs e)) K Q else F := by
  have hw : Region.wanted o (yielded ops a.tmps) = true := by simp [Region.wanted, hgd]
  rw [if_pos hw]
  have hka := (Keep.refl (fun _ => False) w).alloc (.cells cs e)
  have hsrc : Src (w.alloc (.cells cs e)) (some ⟨w.heap.size, 0, none⟩) (flat enc [y]) := fun _ => ⟨_, rfl, fun j u hj => by
    have hadd : (⟨w.heap.size, 0, none⟩ : Addr).add j = ⟨w.heap.size, j, none⟩ := by unfold Addr.add; split <;> simp_all
    rw [hadd, cell_of_row _ w.heap.size j cs e (0, 0) (heap_alloc_new w _)]
    rw [flat_one, ← hcs] at hj
    simpa using hj⟩
  obtain ⟨A', c', w', hr, h2, h3, h4⟩ := run_app E o.type (w.alloc (.cells cs e)) (hown.ext hka) (A2 := some ⟨w.heap.size, 0, none⟩) (m := 1) (c2 := 1) (ys := [y]) rfl (by simp) hsrc hb hmax (by simp; omega)
  unfold Oper.wp execOp
  simp only [ho, resolve, invoke, builtin, Sem.run_bind, Sem.run_pure, Result.andThen_ok, List.map_toArray, List.map_cons, List.map_nil, hs, hx, hr]
  refine h A' c' w' h2 ((Keep.of_ext hka).trans h3 (fun _ _ h => h)) (fun k hk => ?_)
  rcases h4 k hk with h5 | h5
  · exact .inl h5
  · simp at h5; exact .inr (by omega)
end

abbrev zcs : Array Value := #[.int .i64 0, .int .i64 0, .int .i64 0, .string ⟨#[]⟩, .slice none 0 0, .slice none 0 0, .slice none 0 0]
theorem blk_cell1 {w : World} {g T : Nat} {v : Value} (h : w.heap[g]? = some (.cells #[v] T (0, 0))) : w.cell? ⟨g, 0, none⟩ = some v := by simp [World.cell?, h]
/-- Where it stands ahead of the node. -/
structure Rb (w V : World) (g gb : Nat) (s : RSt) : Prop where
  keep : Keep (fun k => k = g) w V
  rd : Rd V g s.1 s.2
  small : s.1.length ≤ 140737488355328
  box : V.heap[gb]? = some (.cells #[.pointer (some ⟨g, 0, none⟩)] 135 (0, 0))
  res : V.heap[gb + 1]? = some (.cells zcs 25 (0, 0))
  ltb : w.heap.size ≤ gb
  ltg : g < w.heap.size
theorem Rb.cell {w V : World} {g gb : Nat} {s : RSt} (h : Rb w V g gb s) : V.cell? ⟨gb, 0, none⟩ = some (.pointer (some ⟨g, 0, none⟩)) := blk_cell1 h.box
theorem Rb.drew {w V : World} {g gb : Nat} {s : RSt} (h : Rb w V g gb s) : Rb w V.drew g gb s :=
  ⟨h.keep.drew, h.rd.keep ((Keep.refl (fun _ => False) V).drew) (fun _ h => h.elim), h.small, h.box, h.res, h.ltb, h.ltg⟩
theorem Rb.alloc {w V : World} {g gb : Nat} {s : RSt} (h : Rb w V g gb s) (o : Obj) : Rb w (V.alloc o) g gb s :=
  have k := (ext_refl V).alloc o
  ⟨h.keep.alloc o, h.rd.keep k (fun _ h => h.elim), h.small, k.blk h.box id, k.blk h.res id, h.ltb, h.ltg⟩
theorem Rb.step {w V V' : World} {g gb : Nat} {s s' : RSt} (h : Rb w V g gb s) (hk : Keep (fun k => k = g) V V') (hr : Rd V' g s'.1 s'.2) (hl : s'.1.length ≤ s.1.length) : Rb w V' g gb s' :=
  ⟨h.keep.trans hk (fun _ _ h => h), hr, Nat.le_trans hl h.small, hk.blk h.box (by have := h.ltb; have := h.ltg; omega), hk.blk h.res (by have := h.ltb; have := h.ltg; omega), h.ltb, h.ltg⟩

/-- The node's cells, new. -/
def Nn (V : World) (g gb G : Nat) : Prop := V.heap[G]? = some (.cells zcs 25 (0, 0)) ∧ G ≠ g ∧ gb + 1 < G
theorem Rb.nn {w V : World} {g gb : Nat} {s : RSt} (h : Rb w V g gb s) : Nn (V.alloc (Obj.cells zcs 25)) g gb V.heap.size := by
  have h1 := h.res
  have := (Array.getElem?_eq_some_iff.1 h1).1
  exact ⟨heap_alloc_new V _, by have := h.ltb; have := h.ltg; omega, by omega⟩
theorem z_facts {V : World} {G : Nat} (hb : V.heap[G]? = some (.cells zcs 25 (0, 0))) : V.cell? ⟨G, 0, none⟩ = some (.int .i64 0) ∧ V.cell? ⟨G, 1, none⟩ = some (.int .i64 0) ∧ V.cell? ⟨G, 2, none⟩ = some (.int .i64 0) ∧ V.cell? ⟨G, 3, none⟩ = some (.string ⟨#[]⟩) ∧
    V.cell? ⟨G, 4, none⟩ = some (.slice none 0 0) ∧ V.cell? ⟨G, 5, none⟩ = some (.slice none 0 0) ∧ V.cell? ⟨G, 6, none⟩ = some (.slice none 0 0) ∧ V.frozen? ⟨G, 0, none⟩ = false ∧ V.frozen? ⟨G, 1, none⟩ = false ∧ V.frozen? ⟨G, 2, none⟩ = false ∧
    V.frozen? ⟨G, 3, none⟩ = false ∧ V.frozen? ⟨G, 4, none⟩ = false ∧ V.frozen? ⟨G, 5, none⟩ = false ∧ V.frozen? ⟨G, 6, none⟩ = false := by
  refine ⟨?_, ?_, ?_, ?_, ?_, ?_, ?_, ?_, ?_, ?_, ?_, ?_, ?_, ?_⟩ <;> simp [World.cell?, World.frozen?, hb]
theorem Nn.ne {V : World} {g gb G : Nat} (h : Nn V g gb G) : gb ≠ G := by have := h.2.2; omega
theorem cell_other {w : World} {G gb i : Nat} {v u : Value} (hne : gb ≠ G) (hc : w.cell? ⟨gb, 0, none⟩ = some u) : (w.setCell ⟨G, i, none⟩ v).cell? ⟨gb, 0, none⟩ = some u :=
  (World.cell?_of_block (Below.heap_setCell w ⟨G, i, none⟩ v gb hne)).trans hc
theorem keep7 {w : World} {G gb : Nat} {v0 v1 v2 v3 v4 v5 v6 u : Value} (hne : gb ≠ G) (hc : w.cell? ⟨gb, 0, none⟩ = some u) :
    (((((((w.setCell ⟨G, 0, none⟩ v0).setCell ⟨G, 1, none⟩ v1).setCell ⟨G, 2, none⟩ v2).setCell ⟨G, 3, none⟩ v3).setCell ⟨G, 4, none⟩ v4).setCell ⟨G, 5, none⟩ v5).setCell ⟨G, 6, none⟩ v6).cell? ⟨gb, 0, none⟩ = some u :=
  cell_other hne (cell_other hne (cell_other hne (cell_other hne (cell_other hne (cell_other hne (cell_other hne hc))))))
theorem Nn.keep {V V' : World} {g gb G : Nat} (h : Nn V g gb G) (hk : Keep (fun k => k = g) V V') : Nn V' g gb G := ⟨hk.blk h.1 h.2.1, h.2⟩

theorem rdN_nonneg (k : Nat) (s : RSt) : 0 ≤ (rdN k s).1 := by
  unfold rdN rNum; split <;> (try split) <;> (try split) <;> simp
/-- Where the node's reader stands. -/
structure Rn (w V : World) (g gb g3 : Nat) (ns : Array Value) (s : RSt) : Prop where
  keep : Keep (fun k => k = g) w V
  rd : Rd V g s.1 s.2
  small : s.1.length ≤ 140737488355328
  box : V.heap[gb]? = some (.cells #[.pointer (some ⟨g, 0, none⟩)] 135 (0, 0))
  res : V.heap[gb + 1]? = some (.cells zcs 25 (0, 0))
  node : V.heap[g3]? = some (.cells ns 25 (0, 0))
  ltb : w.heap.size ≤ gb
  lt3 : gb + 1 < g3
  ltg : g < w.heap.size
theorem Rn.ofB {w V : World} {g gb g3 : Nat} {ns : Array Value} {s : RSt} (h : Rb w V g gb s) (hn : V.heap[g3]? = some (.cells ns 25 (0, 0))) (h3 : gb + 1 < g3) : Rn w V g gb g3 ns s :=
  ⟨h.keep, h.rd, h.small, h.box, h.res, hn, h.ltb, h3, h.ltg⟩
theorem Rn.cell {w V : World} {g gb g3 : Nat} {ns : Array Value} {s : RSt} (h : Rn w V g gb g3 ns s) : V.cell? ⟨gb, 0, none⟩ = some (.pointer (some ⟨g, 0, none⟩)) := blk_cell1 h.box
theorem Rn.lt {w V : World} {g gb g3 : Nat} {ns : Array Value} {s : RSt} (h : Rn w V g gb g3 ns s) : g3 + 1 ≤ V.heap.size := (Array.getElem?_eq_some_iff.1 h.node).1
theorem Rn.grow {w V V' : World} {g gb g3 : Nat} {ns : Array Value} {s : RSt} {S : Nat → Prop} (h : Rn w V g gb g3 ns s) (hk : Keep S V V') (hS : ∀ k, S k → g3 < k) : Rn w V' g gb g3 ns s := by
  have h1 := h.ltb; have h2 := h.lt3; have h3 := h.ltg
  refine ⟨h.keep.trans hk (fun k hk' hs => by have := hS k hs; omega), h.rd.keepB hk (fun k hs => by have := hS k hs; omega), h.small, hk.blk h.box (fun hs => by have := hS _ hs; omega), hk.blk h.res (fun hs => by have := hS _ hs; omega), hk.blk h.node (fun hs => by have := hS _ hs; omega), h1, h2, h3⟩
theorem Rn.drew {w V : World} {g gb g3 : Nat} {ns : Array Value} {s : RSt} (h : Rn w V g gb g3 ns s) : Rn w V.drew g gb g3 ns s := h.grow ((Keep.refl (fun _ => False) V).drew) (fun _ h => h.elim)
theorem Rn.set {w V : World} {g gb g3 : Nat} {ns : Array Value} {s : RSt} (h : Rn w V g gb g3 ns s) (i : Nat) (v : Value) : Rn w (V.setCell ⟨g3, i, none⟩ v) g gb g3 (ns.setIfInBounds i v) s := by
  have h1 := h.ltb; have h2 := h.lt3; have h3 := h.ltg
  have hk : Keep (fun k => k = g3) V (V.setCell ⟨g3, i, none⟩ v) := (Keep.refl (fun k => k = g3) V).setCell (p := ⟨g3, i, none⟩) (fun _ => rfl) v
  refine ⟨h.keep.trans hk (fun k hk' hs => by omega), h.rd.keepB hk (fun k hs => by omega), h.small, hk.blk h.box (fun hs => by omega), hk.blk h.res (fun hs => by omega), ?_, h1, h2, h3⟩
  · rw [heap_setCell_same V g3 i _ _ _ h.node]
theorem Rn.step {w V V' : World} {g gb g3 : Nat} {ns : Array Value} {s s' : RSt} (h : Rn w V g gb g3 ns s) (hk : Keep (fun k => k = g) V V') (hr : Rd V' g s'.1 s'.2) (hl : s'.1.length ≤ s.1.length) : Rn w V' g gb g3 ns s' := by
  have h1 := h.ltb; have h2 := h.lt3; have h3 := h.ltg
  refine ⟨h.keep.trans hk (fun _ _ h => h), hr, Nat.le_trans hl h.small, hk.blk h.box (by omega), hk.blk h.res (by omega), hk.blk h.node (by omega), h1, h2, h3⟩
theorem Rb.chain {w V : World} {g gb G : Nat} {s : RSt} (h : Rb w V g gb s) (hn : Nn V g gb G) (v0 v1 v2 v3 v4 v5 v6 : Value) :
    Rn w (((((((V.setCell ⟨G, 0, none⟩ v0).setCell ⟨G, 1, none⟩ v1).setCell ⟨G, 2, none⟩ v2).setCell ⟨G, 3, none⟩ v3).setCell ⟨G, 4, none⟩ v4).setCell ⟨G, 5, none⟩ v5).setCell ⟨G, 6, none⟩ v6) g gb G #[v0, v1, v2, v3, v4, v5, v6] s :=
  ((((((((Rn.ofB h hn.1 hn.2.2).set 0 v0).set 1 v1).set 2 v2).set 3 v3).set 4 v4).set 5 v5).set 6 v6)
theorem Rb.last {w V : World} {g gb : Nat} {s : RSt} (h : Rb w V g gb s) (ns : Array Value) : Rn w (V.alloc (.cells ns 25)) g gb V.heap.size ns s := by
  refine Rn.ofB (h.alloc _) (heap_alloc_new V _) ?_
  have h1 := h.res
  have := (Array.getElem?_eq_some_iff.1 h1).1
  omega
theorem Rn.facts {w V : World} {g gb g3 : Nat} {v0 v1 v2 v3 v4 v5 v6 : Value} {s : RSt} (h : Rn w V g gb g3 #[v0, v1, v2, v3, v4, v5, v6] s) :
    V.cell? ⟨g3, 0, none⟩ = some v0 ∧ V.cell? ⟨g3, 1, none⟩ = some v1 ∧ V.cell? ⟨g3, 2, none⟩ = some v2 ∧ V.cell? ⟨g3, 3, none⟩ = some v3 ∧ V.cell? ⟨g3, 4, none⟩ = some v4 ∧ V.cell? ⟨g3, 5, none⟩ = some v5 ∧ V.cell? ⟨g3, 6, none⟩ = some v6 := by
  have hb := h.node
  refine ⟨?_, ?_, ?_, ?_, ?_, ?_, ?_⟩ <;> simp [World.cell?, hb]
theorem Rn.loose {w V : World} {g gb g3 : Nat} {ns : Array Value} {s : RSt} (h : Rn w V g gb g3 ns s) (i : Nat) : V.frozen? ⟨g3, i, none⟩ = false := by
  have hb := h.node
  simp [World.frozen?, hb]

/-- The node's lists: of one's own, and apart. -/
structure Lx (V : World) (B : Nat) (x : Nd) (A4 : Option Addr) (n4 c4 : Nat) (A5 : Option Addr) (n5 c5 : Nat) (A6 : Option Addr) (n6 c6 : Nat) : Prop where
  keys : Own encS 1 9 B V A4 n4 c4 x.keys
  vals : Own encS 1 9 B V A5 n5 c5 x.vals
  kids : Own encI 1 3 B V A6 n6 c6 x.kids
  dis : ∀ k, foot A4 c4 k → ¬ foot A5 c5 k
  hs : x.high.size ≤ 256
  ks : ∀ k, k ∈ x.keys → k.size ≤ 256
  vs : ∀ k, k ∈ x.vals → k.size ≤ 256
section
variable {V V' : World} {B : Nat} {a b c : Int} {h : ByteArray} {ks vs : List ByteArray} {kd : List Int} {A4 A5 A6 A' : Option Addr} {n4 c4 n5 c5 n6 c6 c' : Nat}
theorem Lx.keep {S : Nat → Prop} {x : Nd} (L : Lx V B x A4 n4 c4 A5 n5 c5 A6 n6 c6) (hk : Keep S V V') (hS : ∀ k, S k → k < B ∨ V.heap.size ≤ k) : Lx V' B x A4 n4 c4 A5 n5 c5 A6 n6 c6 :=
  ⟨L.keys.keep hk (fun k hf hs => by have := L.keys.ge hf; have := hS k hs; omega), L.vals.keep hk (fun k hf hs => by have := L.vals.ge hf; have := hS k hs; omega),
    L.kids.keep hk (fun k hf hs => by have := L.kids.ge hf; have := hS k hs; omega), L.dis, L.hs, L.ks, L.vs⟩
theorem own_apart {α β : Type} {e1 : α → List Value} {e2 : β → List Value} {A1 A2 : Option Addr} {m1 k1 m2 k2 : Nat} {xs : List α} {ys : List β} {s1 s2 t1 t2 : Nat} (h1 : Own e1 s1 t1 B V A1 m1 k1 xs) (h2 : Own e2 s2 t2 B V A2 m2 k2 ys) (ht : t1 ≠ t2) : ∀ k, foot A1 k1 k → ¬ foot A2 k2 k := by
  intro k h3 h4
  obtain ⟨_, h5⟩ := h1.type_ h3
  obtain ⟨_, h6⟩ := h2.type_ h4
  rw [h5] at h6
  simp at h6
  exact ht h6.2
theorem Lx.addKey {k : ByteArray} (L : Lx V B ⟨a, b, c, h, ks, vs, kd⟩ A4 n4 c4 A5 n5 c5 A6 n6 c6) (ho : Own encS 1 9 B V' A' (n4 + 1) c' (ks ++ [k])) (hk : Keep (foot A4 c4) V V') (hf : ∀ k, foot A' c' k → foot A4 c4 k ∨ V.heap.size ≤ k) (hz : k.size ≤ 256) :
    Lx V' B ⟨a, b, c, h, ks ++ [k], vs, kd⟩ A' (n4 + 1) c' A5 n5 c5 A6 n6 c6 := by
  refine ⟨ho, L.vals.keep hk (fun k h5 h4 => L.dis k h4 h5), L.kids.keep hk (fun k h6 h4 => own_apart L.keys L.kids (by omega) k h4 h6), fun k h4 h5 => ?_, L.hs, fun k hm => ?_, L.vs⟩
  · rcases hf k h4 with h | h
    · exact L.dis k h h5
    · have := (L.vals.ge h5).2; omega
  · rcases List.mem_append.1 hm with h | h
    · exact L.ks k h
    · simp at h; rw [h]; exact hz
theorem Lx.addVal {k : ByteArray} (L : Lx V B ⟨a, b, c, h, ks, vs, kd⟩ A4 n4 c4 A5 n5 c5 A6 n6 c6) (ho : Own encS 1 9 B V' A' (n5 + 1) c' (vs ++ [k])) (hk : Keep (foot A5 c5) V V') (hf : ∀ k, foot A' c' k → foot A5 c5 k ∨ V.heap.size ≤ k) (hz : k.size ≤ 256) :
    Lx V' B ⟨a, b, c, h, ks, vs ++ [k], kd⟩ A4 n4 c4 A' (n5 + 1) c' A6 n6 c6 := by
  refine ⟨L.keys.keep hk (fun k h4 h5 => L.dis k h4 h5), ho, L.kids.keep hk (fun k h6 h5 => own_apart L.vals L.kids (by omega) k h5 h6), fun k h4 h5 => ?_, L.hs, L.ks, fun k hm => ?_⟩
  · rcases hf k h5 with h | h
    · exact L.dis k h4 h
    · have := (L.keys.ge h4).2; omega
  · rcases List.mem_append.1 hm with h | h
    · exact L.vs k h
    · simp at h; rw [h]; exact hz
theorem Lx.addKid {k : Int} (L : Lx V B ⟨a, b, c, h, ks, vs, kd⟩ A4 n4 c4 A5 n5 c5 A6 n6 c6) (ho : Own encI 1 3 B V' A' (n6 + 1) c' (kd ++ [k])) (hk : Keep (foot A6 c6) V V') :
    Lx V' B ⟨a, b, c, h, ks, vs, kd ++ [k]⟩ A4 n4 c4 A5 n5 c5 A' (n6 + 1) c' :=
  ⟨L.keys.keep hk (fun k h4 h6 => own_apart L.keys L.kids (by omega) k h4 h6), L.vals.keep hk (fun k h5 h6 => own_apart L.vals L.kids (by omega) k h5 h6), ho, L.dis, L.hs, L.ks, L.vs⟩
theorem Lx.ndAt {x : Nd} (L : Lx V B x A4 n4 c4 A5 n5 c5 A6 n6 c6) (h4 : n4 ≤ 140737488351232) (h5 : n5 ≤ 140737488351232) (h6 : n6 ≤ 140737488351232) : NdAt V x A4 n4 c4 A5 n5 c5 A6 n6 c6 :=
  ⟨L.keys.sl, L.vals.sl, L.kids.sl, h4, h5, h6, Nat.le_trans L.hs (by omega), fun k hk => Nat.le_trans (L.ks k hk) (by omega), fun k hk => Nat.le_trans (L.vs k hk) (by omega)⟩
end
theorem Rn.chain {w V : World} {g gb g3 : Nat} {ns : Array Value} {s : RSt} (h : Rn w V g gb g3 ns s) (v0 v1 v2 v3 v4 v5 v6 : Value) {V9 : World}
    (e : ((((((V.setCell ⟨gb + 1, 0, none⟩ v0).setCell ⟨gb + 1, 1, none⟩ v1).setCell ⟨gb + 1, 2, none⟩ v2).setCell ⟨gb + 1, 3, none⟩ v3).setCell ⟨gb + 1, 4, none⟩ v4).setCell ⟨gb + 1, 5, none⟩ v5).setCell ⟨gb + 1, 6, none⟩ v6 = V9) :
    V9.heap[gb + 1]? = some (.cells #[v0, v1, v2, v3, v4, v5, v6] 25 (0, 0)) ∧ Keep (fun k => k = gb + 1) V V9 := by
  have k0 := Keep.refl (fun k => k = gb + 1) V
  have r0 := h.res
  have r1 := heap_setCell_same V (gb + 1) 0 _ _ v0 r0
  have r2 := heap_setCell_same _ (gb + 1) 1 _ _ v1 r1
  have r3 := heap_setCell_same _ (gb + 1) 2 _ _ v2 r2
  have r4 := heap_setCell_same _ (gb + 1) 3 _ _ v3 r3
  have r5 := heap_setCell_same _ (gb + 1) 4 _ _ v4 r4
  have r6 := heap_setCell_same _ (gb + 1) 5 _ _ v5 r5
  have r7 := heap_setCell_same _ (gb + 1) 6 _ _ v6 r6
  rw [e] at r7
  refine ⟨r7, ?_⟩
  rw [← e]
  exact ((((((k0.setCell (p := ⟨gb + 1, 0, none⟩) (fun _ => rfl) _).setCell (p := ⟨gb + 1, 1, none⟩) (fun _ => rfl) _).setCell (p := ⟨gb + 1, 2, none⟩) (fun _ => rfl) _).setCell (p := ⟨gb + 1, 3, none⟩) (fun _ => rfl) _).setCell (p := ⟨gb + 1, 4, none⟩) (fun _ => rfl) _).setCell (p := ⟨gb + 1, 5, none⟩) (fun _ => rfl) _).setCell (p := ⟨gb + 1, 6, none⟩) (fun _ => rfl) _
/-- A node whose lists lie in new blocks. -/
structure NdNew (B : Nat) (n : Nd) (A4 A5 A6 : Option Addr) : Prop where
  keys : n.keys ≠ [] → ∀ ad, A4 = some ad → B ≤ ad.block
  vals : n.vals ≠ [] → ∀ ad, A5 = some ad → B ≤ ad.block
  kids : n.kids ≠ [] → ∀ ad, A6 = some ad → B ≤ ad.block
theorem Own.new {α : Type} {enc : α → List Value} {sz : Nat} {e : TypeId} {B B' : Nat} {w : World} {A : Option Addr} {n c : Nat} {xs : List α} (h : Own enc sz e B w A n c xs) (hB : B' ≤ B) : xs ≠ [] → ∀ ad, A = some ad → B' ≤ ad.block := fun hn ad hA => by
  have h1 := h.cap.1
  have h2 := h.len
  have h3 : xs.length ≠ 0 := fun e => hn (List.eq_nil_of_length_eq_zero e)
  exact Nat.le_trans hB (h.ge ⟨by omega, ad, hA, rfl⟩).1
theorem NdAt.keepN {w w' : World} {n : Nd} {A4 : Option Addr} {n4 c4 : Nat} {A5 : Option Addr} {n5 c5 : Nat} {A6 : Option Addr} {n6 c6 : Nat} {S : Nat → Prop} {B : Nat} (h : NdAt w n A4 n4 c4 A5 n5 c5 A6 n6 c6) (hn : NdNew B n A4 A5 A6) (hk : Keep S w w') (hS : ∀ k, S k → k < B) : NdAt w' n A4 n4 c4 A5 n5 c5 A6 n6 c6 :=
  ⟨h.keys.keep hk (fun h0 ad h1 h2 => by have := hn.keys h0 ad h1; have := hS _ h2; omega), h.vals.keep hk (fun h0 ad h1 h2 => by have := hn.vals h0 ad h1; have := hS _ h2; omega), h.kids.keep hk (fun h0 ad h1 h2 => by have := hn.kids h0 ad h1; have := hS _ h2; omega),
    h.b4, h.b5, h.b6, h.bh, h.bk, h.bv⟩
/-- The node that the code reads. -/
def nodeP (s : RSt) : Nd := (rdEnts 252 (min (rdHead 252 s).2.1 252).toNat ((rdHead 252 s).1, (rdHead 252 s).2.2)).1
def RetNode (w : World) (g : Nat) (n : Nd) (e : Ending) (w' : World) : Prop :=
  ∃ A4 n4 c4 A5 n5 c5 A6 n6 c6, e = .returned (ndV n A4 n4 c4 A5 n5 c5 A6 n6 c6) ∧ NdAt w' n A4 n4 c4 A5 n5 c5 A6 n6 c6 ∧ Keep (fun k => k = g) w w' ∧ NdNew w.heap.size n A4 A5 A6
set_option maxRecDepth 100000 in
set_option maxHeartbeats 4000000 in
theorem pnode_any (g : Nat) (s : RSt) (w : World) (h : Rd w g s.1 s.2) (hm : s.1.length ≤ 140737488355328) :
    Calls Try.prog 91 #[.agg #[.pointer (some ⟨g, 0, none⟩)]] w (RetNode w g (nodeP s)) := by
  refine hide_post fun R hR => ?_
  have HR := Hd.mk h
  have HG : Hd (g < w.heap.size) := ⟨by obtain ⟨A, N, c, hb, _⟩ := h.row; exact (Array.getElem?_eq_some_iff.1 hb).1⟩
  have hm := Hd.mk hm
  clear h
  go_enter Try.func91, Try.ntmps91
  go_upto_region 1 with fail
  obtain ⟨gb, hgb⟩ : ∃ gb, w.heap.size = gb := ⟨_, rfl⟩
  rw [hgb]
  obtain ⟨W0, hW0⟩ : ∃ W0, (w.alloc (Obj.cells #[Value.pointer (some { block := g, off := 0 })] 135)).alloc (Obj.cells zcs 25) = W0 := ⟨_, rfl⟩
  rw [hW0]
  have h0 : Hd (Rb w W0 g gb s) := ⟨by
    have k1 := (ext_refl w).alloc (Obj.cells #[Value.pointer (some { block := g, off := 0 })] 135)
    have k2 := (ext_refl (w.alloc (Obj.cells #[Value.pointer (some { block := g, off := 0 })] 135))).alloc (Obj.cells zcs 25)
    have hb := k2.blk (heap_alloc_new w (Obj.cells #[Value.pointer (some { block := g, off := 0 })] 135)) id
    have hr := heap_alloc_new (w.alloc (Obj.cells #[Value.pointer (some { block := g, off := 0 })] 135)) (Obj.cells zcs 25)
    rw [hW0] at k2 hb hr
    rw [hgb] at hb
    have hsz : (w.alloc (Obj.cells #[Value.pointer (some { block := g, off := 0 })] 135)).heap.size = gb + 1 := by simp [hgb]
    rw [hsz] at hr
    have k3 : Ext w W0 := Keep.ext k1 k2
    exact ⟨Keep.of_ext k3, HR.out.keep k3 (fun _ h => h.elim), hm.out, hb, hr, by omega, HG.out⟩⟩
  clear hW0
  have hc0 := h0.out.cell
  have hd := Hd.mk h0.out.drew
  have hcd := hd.out.cell
  have hda := Hd.mk (h0.out.alloc (Obj.cells zcs 25)).drew
  have hcda := hda.out.cell
  go_cut [3] (fun v3 wx => ∃ (g3 : Nat) (V : World), V = wx ∧ v3 = .pointer (some ⟨g3, 0, none⟩) ∧ Hd (Rn w V g gb g3 #[.int .i64 (rdN 1 s).1, .int .i64 (rdN 8 (rdN 1 s).2).1, .int .i64 (rdN 4 (rdN 8 (rdN 1 s).2).2).1, .string ⟨#[]⟩, .slice none 0 0, .slice none 0 0, .slice none 0 0] (rdN 4 (rdN 8 (rdN 1 s).2).2).2))
  case first =>
    go_region_held3 (fun w' => w'.cell? ⟨gb, 0, none⟩ = some (.pointer (some ⟨g, 0, none⟩))) (first | with_reducible exact hc0 | with_reducible exact hcd | with_reducible exact hcda | with_reducible exact hc1 | with_reducible exact hc1a | with_reducible exact hc2 | with_reducible exact hc2a | with_reducible exact hc3 | with_reducible exact hc3a | with_reducible exact keep7 hgne hc3 | with_reducible exact (h3.out.alloc _).cell | fail)
      (first
        | (go_at_call_of 127 (Value.int IntKind.i64 1); refine (pnum_any g s 1 rfl _ (by first | exact hd.out.rd | exact hda.out.rd)).mono ?_; rintro e w1 ⟨rfl, hr1, hk1⟩; have h1 : Hd (Rb w w1 g gb (rdN 1 s).2) := ⟨by first | exact hd.out.step hk1 hr1 (rdN_rest _ _) | exact hda.out.step hk1 hr1 (rdN_rest _ _)⟩; have hc1 := h1.out.cell; have h1a := Hd.mk (h1.out.alloc (Obj.cells zcs 25)); have hc1a := h1a.out.cell; (try have hn1 : Hd (Nn w1 g gb W0.heap.size) := ⟨(show Nn (W0.alloc (Obj.cells zcs 25)).drew g gb W0.heap.size from h0.out.nn).keep hk1⟩); clear hr1)
        | (go_at_call_of 127 (Value.int IntKind.i64 8); refine (pnum_any g (rdN 1 s).2 8 rfl _ (by first | exact h1.out.rd | exact h1a.out.rd)).mono ?_; rintro e w2 ⟨rfl, hr2, hk2⟩; have h2 : Hd (Rb w w2 g gb (rdN 8 (rdN 1 s).2).2) := ⟨by first | exact h1.out.step hk2 hr2 (rdN_rest _ _) | exact h1a.out.step hk2 hr2 (rdN_rest _ _)⟩; have hc2 := h2.out.cell; have h2a := Hd.mk (h2.out.alloc (Obj.cells zcs 25)); have hc2a := h2a.out.cell; (try have hn2 := Hd.mk (hn1.out.keep hk2)); (try have hn2 : Hd (Nn w2 g gb w1.heap.size) := ⟨h1.out.nn.keep hk2⟩); clear hr2)
        | (go_at_call_of 127 (Value.int IntKind.i64 4); refine (pnum_any g (rdN 8 (rdN 1 s).2).2 4 rfl _ (by first | exact h2.out.rd | exact h2a.out.rd)).mono ?_; rintro e w3 ⟨rfl, hr3, hk3⟩; have h3 : Hd (Rb w w3 g gb (rdN 4 (rdN 8 (rdN 1 s).2).2).2) := ⟨by first | exact h2.out.step hk3 hr3 (rdN_rest _ _) | exact h2a.out.step hk3 hr3 (rdN_rest _ _)⟩; have hc3 := h3.out.cell; have h3a := Hd.mk (h3.out.alloc (Obj.cells zcs 25)); have hc3a := h3a.out.cell; (try have hn3 := Hd.mk (hn2.out.keep hk3)); (try have hn3 : Hd (Nn w3 g gb w2.heap.size) := ⟨h2.out.nn.keep hk3⟩); (try (have hx3 : Nn w3 g gb _ := hn3.out; obtain ⟨hp0, hp1, hp2, hp3, hp4, hp5, hp6, hf0, hf1, hf2, hf3, hf4, hf5, hf6⟩ := z_facts hx3.1; have hgne := hx3.ne)); clear hr3))
    all_goals (go_wp2_with fail; go_meet; refine ⟨_, _, rfl, rfl, ⟨?_⟩⟩; first | with_reducible exact h3.out.last _ | with_reducible exact h3.out.chain hn3.out _ _ _ _ _ _ _ | fail)
  case rest =>
    obtain ⟨g3, V, rfl, rfl, hst⟩ := hcut
    clear hc0 hd hcd hda hcda h0
    obtain ⟨s3, hs3⟩ : ∃ s3, (rdN 4 (rdN 8 (rdN 1 s).2).2).2 = s3 := ⟨_, rfl⟩
    rw [hs3] at hst
    obtain ⟨a, ha⟩ : ∃ a, (rdN 1 s).1 = a := ⟨_, rfl⟩
    obtain ⟨b, hb⟩ : ∃ b, (rdN 8 (rdN 1 s).2).1 = b := ⟨_, rfl⟩
    obtain ⟨c, hc⟩ : ∃ c, (rdN 4 (rdN 8 (rdN 1 s).2).2).1 = c := ⟨_, rfl⟩
    rw [ha, hb, hc] at hst
    have HA := Hd.mk (And.intro ha (And.intro hb (And.intro hc hs3)))
    clear ha hb hc hs3
    have hcb := hst.out.cell
    go_wp2_with fail
    refine (pnum_any g s3 2 rfl _ hst.out.rd).mono ?_
    rintro e V1 ⟨rfl, hr1, hk1⟩
    have hst1 := Hd.mk (hst.out.step hk1 hr1 (rdN_rest _ _))
    clear hr1 hk1 hcb hst
    obtain ⟨many, hmany⟩ : ∃ many, (rdN 2 s3).1 = many := ⟨_, rfl⟩
    obtain ⟨s4, hs4⟩ : ∃ s4, (rdN 2 s3).2 = s4 := ⟨_, rfl⟩
    rw [hmany]
    rw [hs4] at hst1
    have hm0 : 0 ≤ many := by rw [← hmany]; exact rdN_nonneg _ _
    have HM := Hd.mk (And.intro hmany hs4)
    clear hmany hs4
    have hcb := hst1.out.cell
    go_wp2_with fail
    refine (ptext_any g s4 _ hst1.out.rd hst1.out.small).mono ?_
    rintro e V2 ⟨rfl, hr1, hk1⟩
    have hst2 := Hd.mk (hst1.out.step hk1 hr1 (rdT_rest _ _))
    clear hr1 hk1 hcb hst1
    obtain ⟨h, hh⟩ : ∃ h, (rdT 252 s4).1 = h := ⟨_, rfl⟩
    obtain ⟨s5, hs5⟩ : ∃ s5, (rdT 252 s4).2 = s5 := ⟨_, rfl⟩
    rw [hh]
    rw [hs5] at hst2
    have hhs : Hd (h.size ≤ 252) := ⟨by rw [← hh]; exact rdT_size _ _⟩
    have HT := Hd.mk (And.intro hh hs5)
    clear hh hs5
    obtain ⟨hd0, hd1, hd2, hd3, hd4, hd5, hd6⟩ := hst2.out.facts
    have hf3 := hst2.out.loose 3
    have hst3 : Hd (Rn w (V2.setCell ⟨g3, 3, none⟩ (.string h)) g gb g3 #[.int .i64 a, .int .i64 b, .int .i64 c, .string h, .slice none 0 0, .slice none 0 0, .slice none 0 0] s5) := ⟨hst2.out.set 3 _⟩
    go_upto_region 4 with fail
    obtain ⟨V3, hV3⟩ : ∃ V3, V2.setCell ⟨g3, 3, none⟩ (.string h) = V3 := ⟨_, rfl⟩
    rw [hV3] at hst3 ⊢
    clear hV3 hst2 hd0 hd1 hd2 hd3 hd4 hd5 hd6 hf3
    obtain ⟨hd0, hd1, hd2, hd3, hd4, hd5, hd6⟩ := hst3.out.facts
    have hcb := hst3.out.cell
    by_cases hp : 0 < a
    · have hpd : decide (0 < a) = true := by simpa using hp
      have hp := Hd.mk hp
      go_wp2_with fail
      refine (pnum_any g s5 4 rfl _ hst3.out.rd).mono ?_
      rintro e V4 ⟨rfl, hr1, hk1⟩
      have hst4 := Hd.mk (hst3.out.step hk1 hr1 (rdN_rest _ _))
      clear hr1 hk1 hcb hst3 hd0 hd1 hd2 hd3 hd4 hd5 hd6
      obtain ⟨k0, hk0⟩ : ∃ k0, (rdN 4 s5).1 = k0 := ⟨_, rfl⟩
      obtain ⟨s6, hs6⟩ : ∃ s6, (rdN 4 s5).2 = s6 := ⟨_, rfl⟩
      rw [hk0]
      rw [hs6] at hst4
      have HK := Hd.mk (And.intro hk0 hs6)
      clear hk0 hs6
      have hx0 : Hd (rdHead 252 s = (⟨a, b, c, h, [], [], [k0]⟩, many, s6)) := ⟨by
        unfold rdHead
        simp only [HA.out.1, HA.out.2.1, HA.out.2.2.1, HA.out.2.2.2, HM.out.1, HM.out.2, HT.out.1, HT.out.2, HK.out.1, HK.out.2, if_pos hp.out]⟩
      have hk4 := (ext_refl V4).alloc (.cells #[.int .i64 k0] 3)
      have hst5 := Hd.mk (hst4.out.grow hk4 (fun _ h => h.elim))
      have hrow := Hd.mk (heap_alloc_new V4 (.cells #[.int .i64 k0] 3))
      obtain ⟨V5, hV5⟩ : ∃ V5, V4.alloc (.cells #[.int .i64 k0] 3) = V5 := ⟨_, rfl⟩
      rw [hV5] at hst5 hrow
      obtain ⟨hd0, hd1, hd2, hd3, hd4, hd5, hd6⟩ := hst5.out.facts
      have hf6 := hst5.out.loose 6
      have hst6 : Hd (Rn w (V5.setCell ⟨g3, 6, none⟩ (.slice (some ⟨V4.heap.size, 0, none⟩) 1 1)) g gb g3 #[.int .i64 a, .int .i64 b, .int .i64 c, .string h, .slice none 0 0, .slice none 0 0, .slice (some ⟨V4.heap.size, 0, none⟩) 1 1] s6) := ⟨hst5.out.set 6 _⟩
      have hz := hst4.out.lt
      go_upto_region 6 with fail
      obtain ⟨V6, hV6⟩ : ∃ V6, V5.setCell ⟨g3, 6, none⟩ (.slice (some ⟨V4.heap.size, 0, none⟩) 1 1) = V6 := ⟨_, rfl⟩
      have hk6 : Keep (fun k => k = g3) V5 V6 := by rw [← hV6]; exact (Keep.refl (fun k => k = g3) V5).setCell (p := ⟨g3, 6, none⟩) (fun _ => rfl) _
      rw [hV6] at hst6 ⊢
      have hL0 : Hd (Lx V6 (g3 + 1) ⟨a, b, c, h, [], [], [k0]⟩ none 0 0 none 0 0 (some ⟨V4.heap.size, 0, none⟩) 1 1) :=
        ⟨⟨Own.nil_ _ _ _ _ _, Own.nil_ _ _ _ _ _, ⟨rfl, .inr ⟨V4.heap.size, #[.int .i64 k0], rfl, hz, hk6.blk hrow.out (by omega), Nat.le_refl _, by simp only [maxLen]; omega, rfl, rfl⟩⟩, fun k hf => absurd rfl hf.1, by have := hhs.out; simp only; omega, fun k hk => by simp at hk, fun k hk => by simp at hk⟩⟩
      clear hV6 hV5 hst4 hst5 hrow hd0 hd1 hd2 hd3 hd4 hd5 hd6 hf6 hk4 hk6
      generalize (some ⟨V4.heap.size, 0, none⟩ : Option Addr) = A60 at hst6 hL0 ⊢
      go_cut [25, 26] (fun v25 v26 wx => ∃ m : Nat, v25 = .int .i64 m ∧ v26 = .int .i64 0 ∧ Hd (m = (min many 252).toNat) ∧ V6 = wx)
      case first =>
        go_wp2_with fail
        all_goals (go_meet; first | exact ⟨252, rfl, rfl, ⟨by omega⟩, rfl⟩ | exact ⟨many.toNat, by rw [Int.toNat_of_nonneg hm0], rfl, ⟨by omega⟩, rfl⟩)
      case rest =>
        obtain ⟨m, rfl, rfl, hmm, rfl⟩ := hcut
        have hm252 : (m : Int) ≤ 252 := by have := hmm.out; omega
        go_wp2_with fail
        go_loopg [26] m (fun k' v26 wr => ∃ (i : Nat) (V : World) (ks vs : List ByteArray) (kd : List Int) (sx : RSt) (A4 : Option Addr) (n4 c4 : Nat) (A5 : Option Addr) (n5 c5 : Nat) (A6 : Option Addr) (n6 c6 : Nat), V = wr ∧ Hd (i ≤ m ∧ k' = m - i) ∧ v26 = .int .i64 i ∧
          Hd (rdEnts 252 i ((⟨a, b, c, h, [], [], [k0]⟩ : Nd), s6) = (⟨a, b, c, h, ks, vs, kd⟩, sx)) ∧ Hd (Rn w V g gb g3 #[.int .i64 a, .int .i64 b, .int .i64 c, .string h, .slice A4 n4 c4, .slice A5 n5 c5, .slice A6 n6 c6] sx) ∧
          Hd (Lx V (g3 + 1) ⟨a, b, c, h, ks, vs, kd⟩ A4 n4 c4 A5 n5 c5 A6 n6 c6) ∧ Hd (n4 ≤ i ∧ n5 ≤ i ∧ n6 ≤ i + 1))
        case atStart => exact ⟨0, _, _, _, _, _, _, _, _, _, _, _, _, _, _, rfl, ⟨by omega⟩, rfl, ⟨rfl⟩, hst6, hL0, ⟨by omega⟩⟩
        case round =>
          obtain ⟨i, V, ks, vs, kd, sx, A4, n4, c4, A5, n5, c5, A6, n6, c6, rfl, hi, rfl, hx, hst, hL, hn⟩ := hrel
          by_cases hlt : (i : Int) < (m : Int)
          · have hn4 : (n4 : Int) ≤ 252 := by have := hn.out; omega
            have hn5 : (n5 : Int) ≤ 252 := by have := hn.out; omega
            have hn6 : (n6 : Int) ≤ 253 := by have := hn.out; omega
            obtain ⟨kk, hkk⟩ : ∃ kk, (rdT 252 sx).1 = kk := ⟨_, rfl⟩
            obtain ⟨s1, hs1⟩ : ∃ s1, (rdT 252 sx).2 = s1 := ⟨_, rfl⟩
            have hkz : Hd (kk.size ≤ 256) := ⟨by rw [← hkk]; exact Nat.le_trans (rdT_size _ _) (by omega)⟩
            have hkk := Hd.mk hkk
            have hs1 := Hd.mk hs1
            go_upto_region 8 with fail
            have hcvK := hst.out.cell
            have hdrK := Hd.mk hst.out.drew
            have hcdK := hdrK.out.cell
            have hLdK := Hd.mk (hL.out.keep ((Keep.refl (fun _ => False) _).drew) (fun _ h => h.elim))
            obtain ⟨hq0, hq1, hq2, hq3, hq4, hq5, hq6⟩ := hdrK.out.facts
            have hordK := Hd.mk (And.intro hst.out.ltg (And.intro hst.out.ltb hst.out.lt3))
            obtain ⟨hq0, hq1, hq2, hq3, hq4, hq5, hq6⟩ := hdrK.out.facts
            go_cut [] (fun wx => ∃ (V' : World) (A' : Option Addr) (c' : Nat), V' = wx ∧ Hd (Rn w V' g gb g3 #[.int .i64 a, .int .i64 b, .int .i64 c, .string h, .slice A' (n4 + 1) c', .slice A5 n5 c5, .slice A6 n6 c6] s1) ∧ Hd (Lx V' (g3 + 1) ⟨a, b, c, h, ks ++ [kk], vs, kd⟩ A' (n4 + 1) c' A5 n5 c5 A6 n6 c6))
            case first =>
              go_region_law (first
                | (refine step_call rfl 128 Try.func128 (by kernel_rfl) (by kernel_rfl) [.tmp 30] #[135] rfl [.agg #[.pointer (some ⟨g, 0, none⟩)]] rfl (ptext_any g sx _ hdrK.out.rd hdrK.out.small) ?_; rintro e W1 ⟨rfl, hr1, hk1⟩; refine ⟨_, rfl, ?_⟩; have H1K : Hd (Rn w W1 g gb g3 _ s1) := ⟨hs1.out ▸ hdrK.out.step hk1 hr1 (rdT_rest _ _)⟩; have L1K := Hd.mk (hLdK.out.keep hk1 (fun k hk => by have := hordK.out; omega)); have hcaK := H1K.out.cell; have hcbK := (H1K.out.grow ((ext_refl _).alloc (.cells #[.string kk] 9)) (fun _ h => h.elim)).cell; obtain ⟨hy0, hy1, hy2, hy3, hy4, hy5, hy6⟩ := H1K.out.facts; obtain ⟨hz0, hz1, hz2, hz3, hz4, hz5, hz6⟩ := (H1K.out.grow ((ext_refl _).alloc (.cells #[.string kk] 9)) (fun _ h => h.elim)).facts; rw [hkk.out]; clear hr1)
                | (refine step_push Try.ES rfl _ _ rfl rfl L1K.out.keys kk #[.string kk] rfl rfl (by omega) (by omega) (by have := H1K.out.lt; omega) ?_; intro A' c' W2 ho' hk' hfo; have H2K := Hd.mk (H1K.out.grow hk' (fun k hf => by have := L1K.out.keys.ge hf; omega)); have L2K := Hd.mk (L1K.out.addKey ho' hk' hfo hkz.out); have hceK := H2K.out.cell; obtain ⟨ht0, ht1, ht2, ht3, ht4, ht5, ht6⟩ := H2K.out.facts; have hfzK := H2K.out.loose 4; clear ho' hk' hfo))
              all_goals
                have hEndK : Hd (Rn w _ g gb g3 #[.int .i64 a, .int .i64 b, .int .i64 c, .string h, .slice A' (n4 + 1) c', .slice A5 n5 c5, .slice A6 n6 c6] s1) := ⟨H2K.out.set 4 _⟩
                have hEndLK : Hd (Lx _ (g3 + 1) ⟨a, b, c, h, ks ++ [kk], vs, kd⟩ A' (n4 + 1) c' A5 n5 c5 A6 n6 c6) := ⟨L2K.out.keep ((Keep.refl (fun k => k = g3) _).setCell (p := ⟨g3, 4, none⟩) (fun _ => rfl) (.slice A' (n4 + 1) c')) (fun k hk => by omega)⟩
                go_wp2_with fail
                go_meet
                exact ⟨_, A', c', rfl, hEndK, hEndLK⟩
            case rest =>
              obtain ⟨VK, AK, cK, rfl, hstK, hLK⟩ := hcut
              clear hcvK hdrK hcdK hLdK hq0 hq1 hq2 hq3 hq4 hq5 hq6
              obtain ⟨kv, hkv⟩ : ∃ kv, (rdN 4 s1).1 = kv := ⟨_, rfl⟩
              obtain ⟨s2, hs2⟩ : ∃ s2, (rdN 4 s1).2 = s2 := ⟨_, rfl⟩
              have hkv := Hd.mk hkv
              have hs2 := Hd.mk hs2
              obtain ⟨hd0, hd1, hd2, hd3, hd4, hd5, hd6⟩ := hstK.out.facts
              go_upto_region 10 with fail
              have hcvD := hstK.out.cell
              have hdrD := Hd.mk hstK.out.drew
              have hcdD := hdrD.out.cell
              have hLdD := Hd.mk (hLK.out.keep ((Keep.refl (fun _ => False) _).drew) (fun _ h => h.elim))
              obtain ⟨hq0, hq1, hq2, hq3, hq4, hq5, hq6⟩ := hdrD.out.facts
              have hordD := Hd.mk (And.intro hstK.out.ltg (And.intro hstK.out.ltb hstK.out.lt3))
              obtain ⟨hq0, hq1, hq2, hq3, hq4, hq5, hq6⟩ := hdrD.out.facts
              go_region_law (first
                | (refine step_call rfl 127 Try.func127 (by kernel_rfl) (by kernel_rfl) [.tmp 40, .const (.int .i64 4)] #[135, 3] rfl [.agg #[.pointer (some ⟨g, 0, none⟩)], .int .i64 4] rfl (pnum_any g s1 4 rfl _ hdrD.out.rd) ?_; rintro e W1 ⟨rfl, hr1, hk1⟩; refine ⟨_, rfl, ?_⟩; have H1D : Hd (Rn w W1 g gb g3 _ s2) := ⟨hs2.out ▸ hdrD.out.step hk1 hr1 (rdN_rest _ _)⟩; have L1D := Hd.mk (hLdD.out.keep hk1 (fun k hk => by have := hordD.out; omega)); have hcaD := H1D.out.cell; have hcbD := (H1D.out.grow ((ext_refl _).alloc (.cells #[.int .i64 kv] 3)) (fun _ h => h.elim)).cell; obtain ⟨hy0, hy1, hy2, hy3, hy4, hy5, hy6⟩ := H1D.out.facts; obtain ⟨hz0, hz1, hz2, hz3, hz4, hz5, hz6⟩ := (H1D.out.grow ((ext_refl _).alloc (.cells #[.int .i64 kv] 3)) (fun _ h => h.elim)).facts; rw [hkv.out]; clear hr1)
                | (refine step_push Try.EI rfl _ _ rfl rfl L1D.out.kids kv #[.int .i64 kv] rfl rfl (by omega) (by omega) (by have := H1D.out.lt; omega) ?_; intro A' c' W2 ho' hk' hfo; have H2D := Hd.mk (H1D.out.grow hk' (fun k hf => by have := L1D.out.kids.ge hf; omega)); have L2D := Hd.mk (L1D.out.addKid ho' hk'); have hceD := H2D.out.cell; obtain ⟨ht0, ht1, ht2, ht3, ht4, ht5, ht6⟩ := H2D.out.facts; have hfzD := H2D.out.loose 6; clear ho' hk' hfo))
              all_goals
                have hEndD : Hd (Rn w _ g gb g3 #[.int .i64 a, .int .i64 b, .int .i64 c, .string h, .slice AK (n4 + 1) cK, .slice A5 n5 c5, .slice A' (n6 + 1) c'] s2) := ⟨H2D.out.set 6 _⟩
                have hEndLD : Hd (Lx _ (g3 + 1) ⟨a, b, c, h, ks ++ [kk], vs, kd ++ [kv]⟩ AK (n4 + 1) cK A5 n5 c5 A' (n6 + 1) c') := ⟨L2D.out.keep ((Keep.refl (fun k => k = g3) _).setCell (p := ⟨g3, 6, none⟩) (fun _ => rfl) (.slice A' (n6 + 1) c')) (fun k hk => by omega)⟩
                go_wp2_with fail
                go_roundg (m - (i + 1))
                case measure => have := hi.out; omega
                case rel =>
                  refine ⟨i + 1, _, _, _, _, _, _, _, _, _, _, _, _, _, _, rfl, ⟨by have := hi.out; omega⟩, by go_num, ⟨?_⟩, hEndD, hEndLD, ⟨by have := hn.out; omega⟩⟩
                  rw [rdEnts, hx.out]
                  simp only [rdEnt, if_pos hp.out, hkk.out, hs1.out, hkv.out, hs2.out, addK]
          · obtain ⟨hd0, hd1, hd2, hd3, hd4, hd5, hd6⟩ := hst.out.facts
            obtain ⟨hp0, hp1, hp2, hp3, hp4, hp5, hp6, hf0, hf1, hf2, hf3, hf4, hf5, hf6⟩ := z_facts hst.out.res
            have hend : Hd (nodeP s = ⟨a, b, c, h, ks, vs, kd⟩) := ⟨by
              unfold nodeP
              rw [hx0.out]
              simp only
              rw [show (min many 252).toNat = i by have := hmm.out; have := hi.out; omega, hx.out]⟩
            go_wp2_with fail
            obtain ⟨V9, hV9⟩ : ∃ V9, ((((((V.setCell ⟨gb + 1, 0, none⟩ (.int .i64 a)).setCell ⟨gb + 1, 1, none⟩ (.int .i64 b)).setCell ⟨gb + 1, 2, none⟩ (.int .i64 c)).setCell ⟨gb + 1, 3, none⟩ (.string h)).setCell ⟨gb + 1, 4, none⟩ (.slice A4 n4 c4)).setCell ⟨gb + 1, 5, none⟩ (.slice A5 n5 c5)).setCell ⟨gb + 1, 6, none⟩ (.slice A6 n6 c6) = V9 := ⟨_, rfl⟩
            have hch := hst.out.chain _ _ _ _ _ _ _ hV9
            rw [hV9]
            clear hV9 hp0 hp1 hp2 hp3 hp4 hp5 hp6 hf0 hf1 hf2 hf3 hf4 hf5 hf6 hd0 hd1 hd2 hd3 hd4 hd5 hd6
            obtain ⟨he0, he1, he2, he3, he4, he5, he6⟩ := nd_facts hch.1
            have hk9 := Hd.mk hch.2
            clear hch
            refine bodyPost_ret (v := .agg #[.int .i64 a, .int .i64 b, .int .i64 c, .string h, .slice A4 n4 c4, .slice A5 n5 c5, .slice A6 n6 c6]) (by simp [results, Try.results91, go_sem, he0, he1, he2, he3, he4, he5, he6]) rfl ?_
            refine hR.out _ _ ⟨A4, n4, c4, A5, n5, c5, A6, n6, c6, ?_, ?_, ?_, ?_⟩
            · rw [hend.out]
            · rw [hend.out]
              exact (hL.out.keep hk9.out (fun k hk => by have := hst.out.lt3; omega)).ndAt (by have := hn.out; have := hi.out; omega) (by have := hn.out; have := hi.out; omega) (by have := hn.out; have := hi.out; omega)
            · exact hst.out.keep.trans hk9.out (fun k hk' hk => by have := hst.out.ltb; omega)
            · rw [hend.out]
              have h1 := hst.out.ltb
              have h2 := hst.out.lt3
              exact ⟨hL.out.keys.new (by omega), hL.out.vals.new (by omega), hL.out.kids.new (by omega)⟩
    · have hpd : decide (0 < a) = false := by simpa using hp
      have hp := Hd.mk hp
      have hx0 : Hd (rdHead 252 s = (⟨a, b, c, h, [], [], []⟩, many, s5)) := ⟨by
        unfold rdHead
        simp only [HA.out.1, HA.out.2.1, HA.out.2.2.1, HA.out.2.2.2, HM.out.1, HM.out.2, HT.out.1, HT.out.2, if_neg (show ¬ (0 < a) by have := hp.out; omega)]⟩
      go_upto_region 6 with fail
      have hL0 : Hd (Lx V3 (g3 + 1) ⟨a, b, c, h, [], [], []⟩ none 0 0 none 0 0 none 0 0) :=
        ⟨⟨Own.nil_ _ _ _ _ _, Own.nil_ _ _ _ _ _, Own.nil_ _ _ _ _ _, fun k hf => absurd rfl hf.1, by have := hhs.out; simp only; omega, fun k hk => by simp at hk, fun k hk => by simp at hk⟩⟩
      clear hd0 hd1 hd2 hd3 hd4 hd5 hd6
      go_cut [25, 26] (fun v25 v26 wx => ∃ m : Nat, v25 = .int .i64 m ∧ v26 = .int .i64 0 ∧ Hd (m = (min many 252).toNat) ∧ V3 = wx)
      case first =>
        go_wp2_with fail
        all_goals (go_meet; first | exact ⟨252, rfl, rfl, ⟨by omega⟩, rfl⟩ | exact ⟨many.toNat, by rw [Int.toNat_of_nonneg hm0], rfl, ⟨by omega⟩, rfl⟩)
      case rest =>
        obtain ⟨m, rfl, rfl, hmm, rfl⟩ := hcut
        have hm252 : (m : Int) ≤ 252 := by have := hmm.out; omega
        go_wp2_with fail
        go_loopg [26] m (fun k' v26 wr => ∃ (i : Nat) (V : World) (ks vs : List ByteArray) (kd : List Int) (sx : RSt) (A4 : Option Addr) (n4 c4 : Nat) (A5 : Option Addr) (n5 c5 : Nat) (A6 : Option Addr) (n6 c6 : Nat), V = wr ∧ Hd (i ≤ m ∧ k' = m - i) ∧ v26 = .int .i64 i ∧
          Hd (rdEnts 252 i ((⟨a, b, c, h, [], [], []⟩ : Nd), s5) = (⟨a, b, c, h, ks, vs, kd⟩, sx)) ∧ Hd (Rn w V g gb g3 #[.int .i64 a, .int .i64 b, .int .i64 c, .string h, .slice A4 n4 c4, .slice A5 n5 c5, .slice A6 n6 c6] sx) ∧
          Hd (Lx V (g3 + 1) ⟨a, b, c, h, ks, vs, kd⟩ A4 n4 c4 A5 n5 c5 A6 n6 c6) ∧ Hd (n4 ≤ i ∧ n5 ≤ i ∧ n6 ≤ i + 1))
        case atStart => exact ⟨0, _, _, _, _, _, _, _, _, _, _, _, _, _, _, rfl, ⟨by omega⟩, rfl, ⟨rfl⟩, hst3, hL0, ⟨by omega⟩⟩
        case round =>
          obtain ⟨i, V, ks, vs, kd, sx, A4, n4, c4, A5, n5, c5, A6, n6, c6, rfl, hi, rfl, hx, hst, hL, hn⟩ := hrel
          by_cases hlt : (i : Int) < (m : Int)
          · have hn4 : (n4 : Int) ≤ 252 := by have := hn.out; omega
            have hn5 : (n5 : Int) ≤ 252 := by have := hn.out; omega
            have hn6 : (n6 : Int) ≤ 253 := by have := hn.out; omega
            obtain ⟨kk, hkk⟩ : ∃ kk, (rdT 252 sx).1 = kk := ⟨_, rfl⟩
            obtain ⟨s1, hs1⟩ : ∃ s1, (rdT 252 sx).2 = s1 := ⟨_, rfl⟩
            have hkz : Hd (kk.size ≤ 256) := ⟨by rw [← hkk]; exact Nat.le_trans (rdT_size _ _) (by omega)⟩
            have hkk := Hd.mk hkk
            have hs1 := Hd.mk hs1
            go_upto_region 8 with fail
            have hcvK := hst.out.cell
            have hdrK := Hd.mk hst.out.drew
            have hcdK := hdrK.out.cell
            have hLdK := Hd.mk (hL.out.keep ((Keep.refl (fun _ => False) _).drew) (fun _ h => h.elim))
            obtain ⟨hq0, hq1, hq2, hq3, hq4, hq5, hq6⟩ := hdrK.out.facts
            have hordK := Hd.mk (And.intro hst.out.ltg (And.intro hst.out.ltb hst.out.lt3))
            obtain ⟨hq0, hq1, hq2, hq3, hq4, hq5, hq6⟩ := hdrK.out.facts
            go_cut [] (fun wx => ∃ (V' : World) (A' : Option Addr) (c' : Nat), V' = wx ∧ Hd (Rn w V' g gb g3 #[.int .i64 a, .int .i64 b, .int .i64 c, .string h, .slice A' (n4 + 1) c', .slice A5 n5 c5, .slice A6 n6 c6] s1) ∧ Hd (Lx V' (g3 + 1) ⟨a, b, c, h, ks ++ [kk], vs, kd⟩ A' (n4 + 1) c' A5 n5 c5 A6 n6 c6))
            case first =>
              go_region_law (first
                | (refine step_call rfl 128 Try.func128 (by kernel_rfl) (by kernel_rfl) [.tmp 30] #[135] rfl [.agg #[.pointer (some ⟨g, 0, none⟩)]] rfl (ptext_any g sx _ hdrK.out.rd hdrK.out.small) ?_; rintro e W1 ⟨rfl, hr1, hk1⟩; refine ⟨_, rfl, ?_⟩; have H1K : Hd (Rn w W1 g gb g3 _ s1) := ⟨hs1.out ▸ hdrK.out.step hk1 hr1 (rdT_rest _ _)⟩; have L1K := Hd.mk (hLdK.out.keep hk1 (fun k hk => by have := hordK.out; omega)); have hcaK := H1K.out.cell; have hcbK := (H1K.out.grow ((ext_refl _).alloc (.cells #[.string kk] 9)) (fun _ h => h.elim)).cell; obtain ⟨hy0, hy1, hy2, hy3, hy4, hy5, hy6⟩ := H1K.out.facts; obtain ⟨hz0, hz1, hz2, hz3, hz4, hz5, hz6⟩ := (H1K.out.grow ((ext_refl _).alloc (.cells #[.string kk] 9)) (fun _ h => h.elim)).facts; rw [hkk.out]; clear hr1)
                | (refine step_push Try.ES rfl _ _ rfl rfl L1K.out.keys kk #[.string kk] rfl rfl (by omega) (by omega) (by have := H1K.out.lt; omega) ?_; intro A' c' W2 ho' hk' hfo; have H2K := Hd.mk (H1K.out.grow hk' (fun k hf => by have := L1K.out.keys.ge hf; omega)); have L2K := Hd.mk (L1K.out.addKey ho' hk' hfo hkz.out); have hceK := H2K.out.cell; obtain ⟨ht0, ht1, ht2, ht3, ht4, ht5, ht6⟩ := H2K.out.facts; have hfzK := H2K.out.loose 4; clear ho' hk' hfo))
              all_goals
                have hEndK : Hd (Rn w _ g gb g3 #[.int .i64 a, .int .i64 b, .int .i64 c, .string h, .slice A' (n4 + 1) c', .slice A5 n5 c5, .slice A6 n6 c6] s1) := ⟨H2K.out.set 4 _⟩
                have hEndLK : Hd (Lx _ (g3 + 1) ⟨a, b, c, h, ks ++ [kk], vs, kd⟩ A' (n4 + 1) c' A5 n5 c5 A6 n6 c6) := ⟨L2K.out.keep ((Keep.refl (fun k => k = g3) _).setCell (p := ⟨g3, 4, none⟩) (fun _ => rfl) (.slice A' (n4 + 1) c')) (fun k hk => by omega)⟩
                go_wp2_with fail
                go_meet
                exact ⟨_, A', c', rfl, hEndK, hEndLK⟩
            case rest =>
              obtain ⟨VK, AK, cK, rfl, hstK, hLK⟩ := hcut
              clear hcvK hdrK hcdK hLdK hq0 hq1 hq2 hq3 hq4 hq5 hq6
              obtain ⟨kv, hkv⟩ : ∃ kv, (rdT 252 s1).1 = kv := ⟨_, rfl⟩
              obtain ⟨s2, hs2⟩ : ∃ s2, (rdT 252 s1).2 = s2 := ⟨_, rfl⟩
              have hkvz : Hd (kv.size ≤ 256) := ⟨by rw [← hkv]; exact Nat.le_trans (rdT_size _ _) (by omega)⟩
              have hkv := Hd.mk hkv
              have hs2 := Hd.mk hs2
              obtain ⟨hd0, hd1, hd2, hd3, hd4, hd5, hd6⟩ := hstK.out.facts
              go_upto_region 11 with fail
              have hcvD := hstK.out.cell
              have hdrD := Hd.mk hstK.out.drew
              have hcdD := hdrD.out.cell
              have hLdD := Hd.mk (hLK.out.keep ((Keep.refl (fun _ => False) _).drew) (fun _ h => h.elim))
              obtain ⟨hq0, hq1, hq2, hq3, hq4, hq5, hq6⟩ := hdrD.out.facts
              have hordD := Hd.mk (And.intro hstK.out.ltg (And.intro hstK.out.ltb hstK.out.lt3))
              obtain ⟨hq0, hq1, hq2, hq3, hq4, hq5, hq6⟩ := hdrD.out.facts
              go_region_law (first
                | (refine step_call rfl 128 Try.func128 (by kernel_rfl) (by kernel_rfl) [.tmp 47] #[135] rfl [.agg #[.pointer (some ⟨g, 0, none⟩)]] rfl (ptext_any g s1 _ hdrD.out.rd hdrD.out.small) ?_; rintro e W1 ⟨rfl, hr1, hk1⟩; refine ⟨_, rfl, ?_⟩; have H1D : Hd (Rn w W1 g gb g3 _ s2) := ⟨hs2.out ▸ hdrD.out.step hk1 hr1 (rdT_rest _ _)⟩; have L1D := Hd.mk (hLdD.out.keep hk1 (fun k hk => by have := hordD.out; omega)); have hcaD := H1D.out.cell; have hcbD := (H1D.out.grow ((ext_refl _).alloc (.cells #[.string kv] 9)) (fun _ h => h.elim)).cell; obtain ⟨hy0, hy1, hy2, hy3, hy4, hy5, hy6⟩ := H1D.out.facts; obtain ⟨hz0, hz1, hz2, hz3, hz4, hz5, hz6⟩ := (H1D.out.grow ((ext_refl _).alloc (.cells #[.string kv] 9)) (fun _ h => h.elim)).facts; rw [hkv.out]; clear hr1)
                | (refine step_push Try.ES rfl _ _ rfl rfl L1D.out.vals kv #[.string kv] rfl rfl (by omega) (by omega) (by have := H1D.out.lt; omega) ?_; intro A' c' W2 ho' hk' hfo; have H2D := Hd.mk (H1D.out.grow hk' (fun k hf => by have := L1D.out.vals.ge hf; omega)); have L2D := Hd.mk (L1D.out.addVal ho' hk' hfo hkvz.out); have hceD := H2D.out.cell; obtain ⟨ht0, ht1, ht2, ht3, ht4, ht5, ht6⟩ := H2D.out.facts; have hfzD := H2D.out.loose 5; clear ho' hk' hfo))
              all_goals
                have hEndD : Hd (Rn w _ g gb g3 #[.int .i64 a, .int .i64 b, .int .i64 c, .string h, .slice AK (n4 + 1) cK, .slice A' (n5 + 1) c', .slice A6 n6 c6] s2) := ⟨H2D.out.set 5 _⟩
                have hEndLD : Hd (Lx _ (g3 + 1) ⟨a, b, c, h, ks ++ [kk], vs ++ [kv], kd⟩ AK (n4 + 1) cK A' (n5 + 1) c' A6 n6 c6) := ⟨L2D.out.keep ((Keep.refl (fun k => k = g3) _).setCell (p := ⟨g3, 5, none⟩) (fun _ => rfl) (.slice A' (n5 + 1) c')) (fun k hk => by omega)⟩
                go_wp2_with fail
                go_roundg (m - (i + 1))
                case measure => have := hi.out; omega
                case rel =>
                  refine ⟨i + 1, _, _, _, _, _, _, _, _, _, _, _, _, _, _, rfl, ⟨by have := hi.out; omega⟩, by go_num, ⟨?_⟩, hEndD, hEndLD, ⟨by have := hn.out; omega⟩⟩
                  rw [rdEnts, hx.out]
                  simp only [rdEnt, if_neg (show ¬ (0 < a) by have := hp.out; omega), hkk.out, hs1.out, hkv.out, hs2.out, addV]
          · obtain ⟨hd0, hd1, hd2, hd3, hd4, hd5, hd6⟩ := hst.out.facts
            obtain ⟨hp0, hp1, hp2, hp3, hp4, hp5, hp6, hf0, hf1, hf2, hf3, hf4, hf5, hf6⟩ := z_facts hst.out.res
            have hend : Hd (nodeP s = ⟨a, b, c, h, ks, vs, kd⟩) := ⟨by
              unfold nodeP
              rw [hx0.out]
              simp only
              rw [show (min many 252).toNat = i by have := hmm.out; have := hi.out; omega, hx.out]⟩
            go_wp2_with fail
            obtain ⟨V9, hV9⟩ : ∃ V9, ((((((V.setCell ⟨gb + 1, 0, none⟩ (.int .i64 a)).setCell ⟨gb + 1, 1, none⟩ (.int .i64 b)).setCell ⟨gb + 1, 2, none⟩ (.int .i64 c)).setCell ⟨gb + 1, 3, none⟩ (.string h)).setCell ⟨gb + 1, 4, none⟩ (.slice A4 n4 c4)).setCell ⟨gb + 1, 5, none⟩ (.slice A5 n5 c5)).setCell ⟨gb + 1, 6, none⟩ (.slice A6 n6 c6) = V9 := ⟨_, rfl⟩
            have hch := hst.out.chain _ _ _ _ _ _ _ hV9
            rw [hV9]
            clear hV9 hp0 hp1 hp2 hp3 hp4 hp5 hp6 hf0 hf1 hf2 hf3 hf4 hf5 hf6 hd0 hd1 hd2 hd3 hd4 hd5 hd6
            obtain ⟨he0, he1, he2, he3, he4, he5, he6⟩ := nd_facts hch.1
            have hk9 := Hd.mk hch.2
            clear hch
            refine bodyPost_ret (v := .agg #[.int .i64 a, .int .i64 b, .int .i64 c, .string h, .slice A4 n4 c4, .slice A5 n5 c5, .slice A6 n6 c6]) (by simp [results, Try.results91, go_sem, he0, he1, he2, he3, he4, he5, he6]) rfl ?_
            refine hR.out _ _ ⟨A4, n4, c4, A5, n5, c5, A6, n6, c6, ?_, ?_, ?_, ?_⟩
            · rw [hend.out]
            · rw [hend.out]
              exact (hL.out.keep hk9.out (fun k hk => by have := hst.out.lt3; omega)).ndAt (by have := hn.out; have := hi.out; omega) (by have := hn.out; have := hi.out; omega) (by have := hn.out; have := hi.out; omega)
            · exact hst.out.keep.trans hk9.out (fun k hk' hk => by have := hst.out.ltb; omega)
            · rw [hend.out]
              have h1 := hst.out.ltb
              have h2 := hst.out.lt3
              exact ⟨hL.out.keys.new (by omega), hL.out.vals.new (by omega), hL.out.kids.new (by omega)⟩
end Go.Proofs.Ythpfkdaijiaalaa
