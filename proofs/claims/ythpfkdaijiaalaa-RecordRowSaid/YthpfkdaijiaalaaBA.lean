/- Records: what they are; which are right. -/
import Derived.Test.YthpfkdaijiaalaaAD
namespace Go.Proofs.Ythpfkdaijiaalaa
open Go.RowKit

structure Rc where
  lsn : Int
  epoch : Int
  kind : Int
  page : Int
  other : Int
  req : Int
  key : ByteArray
  value : ByteArray
deriving DecidableEq
abbrev rcL (r : Rc) : List Value := [.int .i64 r.lsn, .int .i64 r.epoch, .int .i64 r.kind, .int .i64 r.page, .int .i64 r.other, .int .i64 r.req, .string r.key, .string r.value]
abbrev rcC (r : Rc) : Array Value := #[.int .i64 r.lsn, .int .i64 r.epoch, .int .i64 r.kind, .int .i64 r.page, .int .i64 r.other, .int .i64 r.req, .string r.key, .string r.value]
abbrev rcV (r : Rc) : Value := .agg #[.int .i64 r.lsn, .int .i64 r.epoch, .int .i64 r.kind, .int .i64 r.page, .int .i64 r.other, .int .i64 r.req, .string r.key, .string r.value]
/-- Its texts lie in memory. -/
structure RcS (r : Rc) : Prop where
  key : r.key.size ≤ 140737488351232
  value : r.value.size ≤ 140737488351232
theorem rc_facts {w : World} {g : Nat} {a b c d e f : Int} {k v : ByteArray} (hb : w.heap[g]? = some (.cells #[.int .i64 a, .int .i64 b, .int .i64 c, .int .i64 d, .int .i64 e, .int .i64 f, .string k, .string v] 46 (0, 0))) :
    w.cell? ⟨g, 0, none⟩ = some (.int .i64 a) ∧ w.cell? ⟨g, 1, none⟩ = some (.int .i64 b) ∧ w.cell? ⟨g, 2, none⟩ = some (.int .i64 c) ∧ w.cell? ⟨g, 3, none⟩ = some (.int .i64 d) ∧ w.cell? ⟨g, 4, none⟩ = some (.int .i64 e) ∧ w.cell? ⟨g, 5, none⟩ = some (.int .i64 f) ∧
      w.cell? ⟨g, 6, none⟩ = some (.string k) ∧ w.cell? ⟨g, 7, none⟩ = some (.string v) := by
  refine ⟨?_, ?_, ?_, ?_, ?_, ?_, ?_, ?_⟩ <;> simp [World.cell?, hb]
/-- A record, boxed, somewhat later. -/
structure Rx (w W : World) (g : Nat) (r : Rc) : Prop where
  ext : Ext w W
  box : W.heap[g]? = some (.cells (rcC r) 46 (0, 0))
theorem Rx.go {w W W' : World} {g : Nat} {r : Rc} (h : Rx w W g r) (hk : Ext W W') : Rx w W' g r := ⟨h.ext.then' hk, hk.blk h.box id⟩
theorem Rx.first {w W : World} (r : Rc) (e : w.alloc (.cells (rcC r) 46) = W) : Rx w W w.heap.size r := by
  subst e
  exact ⟨(ext_refl w).alloc _, heap_alloc_new w _⟩

theorem conv_bytes (s : ByteArray) (hs : s.size ≤ 140737488351232) (w : World) : ∃ A c w', (convert 9 31 (.string s)).run Try.prog w = .ok (.slice A s.size c) w' ∧ SlAt enc8 w' A s.size c s.toList ∧ Ext w w' := by
  refine ⟨_, _, _, Lib.run_convert_string_bytes w 9 31 5 s Try.underlying9 Try.underlying31 Try.underlying5, ?_, ?_⟩
  · have h1 := grownCap_ge w s.size 0 5
    have h2 := grownCap_le_maxLen w s.size 0 5 (by simp only [maxLen]; omega)
    refine ⟨(size_list s).symm, h1, by simp only [maxLen] at h2; omega, (fun h => by cases h), fun _ => ⟨_, rfl, fun j u hj => ?_⟩⟩
    have hjl : j < s.size := by have := (List.getElem?_eq_some_iff.1 hj).1; rw [flat_len (sz := 1) (fun _ => rfl), ← size_list] at this; omega
    rw [add_plain, Nat.zero_add, Lib.bytesWorld_cell w 5 s j hjl]
    rw [← strs8] at hj
    simp only [Lib.strCells, List.getElem?_map] at hj
    cases hg : s.data.toList[j]? with
    | none => rw [hg] at hj; cases hj
    | some x =>
      rw [hg] at hj
      simp only [Option.map_some, Option.some.injEq] at hj
      rw [List.getD_eq_getElem?_getD, hg, Option.getD_some, hj]
  · have hk : Keep (fun _ => False) w (Lib.bytesWorld w 5 s) := ⟨rfl, rfl, rfl, by rw [Lib.bytesWorld_size]; omega, fun k hk _ => Lib.bytesWorld_at_old w 5 s k hk⟩
    exact hk

def pagedB (n : Int) : Bool := decide (1 ≤ n) && decide (n ≤ 4096)
theorem paged_any (n : Int) (w : World) : Calls Try.prog 97 #[.int .i64 n] w fun e w' => e = .returned (.bool (pagedB n)) ∧ w = w' := by
  refine hide_post fun R hR => ?_
  by_cases h : 1 ≤ n
  · go_enter Try.func97, Try.ntmps97
    go_wp2
    exact hR.out _ _ ⟨by simp [pagedB, h], rfl⟩
  · have h' : n < 1 := by omega
    have hd : decide (1 ≤ n) = false := by simpa using h
    go_enter Try.func97, Try.ntmps97
    go_wp2
    exact hR.out _ _ ⟨by simp only [pagedB, hd, Bool.false_and], rfl⟩
theorem refpaged_any (n : Int) (w : World) : Calls Try.prog 117 #[.int .i64 n] w fun e w' => e = .returned (.bool (pagedB n)) ∧ w = w' := by
  refine hide_post fun R hR => ?_
  by_cases h : 1 ≤ n
  · go_enter Try.func117, Try.ntmps117
    go_wp2
    exact hR.out _ _ ⟨by simp [pagedB, h], rfl⟩
  · have h' : n < 1 := by omega
    have hd : decide (1 ≤ n) = false := by simpa using h
    go_enter Try.func117, Try.ntmps117
    go_wp2
    exact hR.out _ _ ⟨by simp only [pagedB, hd, Bool.false_and], rfl⟩

/-- Is a text the page of a node whose LSN is 0? -/
noncomputable def imgB (v : ByteArray) : Bool := @decide (∃ n, pageOf v.toList n ∧ n.lsn = 0) (Classical.propDecidable _)
theorem imgB_yes {v : ByteArray} {n : Nd} (h : pageOf v.toList n) : imgB v = (n.lsn == 0) := by
  unfold imgB
  by_cases h0 : n.lsn = 0
  · rw [@decide_eq_true _ (Classical.propDecidable _) ⟨n, h, h0⟩]; simp [h0]
  · rw [@decide_eq_false _ (Classical.propDecidable _) (fun ⟨m, h1, h2⟩ => h0 (by rw [pageOf_one h h1]; exact h2))]; simp [h0]
theorem imgB_no {v : ByteArray} (h : ∀ m, ¬ pageOf v.toList m) : imgB v = false := by
  unfold imgB
  exact @decide_eq_false _ (Classical.propDecidable _) (fun ⟨m, h1, _⟩ => h m h1)

set_option maxRecDepth 100000 in
theorem image_any (v : ByteArray) (hv : v.size ≤ 140737488351232) (w : World) : Calls Try.prog 98 #[.string v] w fun e w' => e = .returned (.bool (imgB v)) ∧ Ext w w' := by
  refine hide_post fun R hR => ?_
  obtain ⟨A, c, w1, hcv, hs, hk⟩ := conv_bytes v hv w
  have hs := Hd.mk hs
  have hk := Hd.mk hk
  go_enter Try.func98, Try.ntmps98
  go_wp2_with fail
  refine (decode_any A v.size c v.toList w1 hs.out (by omega)).mono ?_
  rintro e w2 ⟨m, x, B4, m4, d4, B5, m5, d5, B6, m6, d6, rfl, hm, hk2, hd⟩
  have hm := Hd.mk hm
  have hk2 := Hd.mk hk2
  obtain ⟨level, lsn, right, high, keys, vals, kids⟩ := m
  simp only [ndV]
  go_upto_region 2 with fail
  obtain ⟨W6, hW⟩ : ∃ W, w2.alloc (.cells #[.int .i64 level, .int .i64 lsn, .int .i64 right, .string high, .slice B4 m4 d4, .slice B5 m5 d5, .slice B6 m6 d6] 25) = W := ⟨_, rfl⟩
  have hcur := Hd.mk (nd_alloc hm.out hW)
  rw [hW]
  clear hW
  obtain ⟨g', hg⟩ : ∃ g, w2.heap.size = g := ⟨_, rfl⟩
  rw [hg] at hcur ⊢
  clear hg
  have hK := Hd.mk ((hk.out.then' hk2.out).then' hcur.out.ext)
  obtain ⟨he0, he1, he2, he3, he4, he5, he6⟩ := nd_facts hcur.out.box
  rcases hd with ⟨rfl, hp⟩ | ⟨rfl, hz, hno⟩
  · have hi := Hd.mk (imgB_yes hp)
    clear hp
    go_wp2_with fail
    exact hR.out _ _ ⟨by rw [hi.out], hK.out⟩
  · have hi := Hd.mk (imgB_no hno)
    clear hno hz
    go_wp2_with fail
    exact hR.out _ _ ⟨by rw [hi.out], hK.out⟩

def headK (r : Rc) : Bool := decide (1 ≤ r.lsn ∧ r.lsn ≤ 1099511627776 ∧ 0 ≤ r.epoch ∧ r.epoch ≤ 1099511627776)
def emptyB (s : ByteArray) : Bool := s.toList.isEmpty
def keyOk (s : ByteArray) : Bool := keyCk s == 0
def valOk (s : ByteArray) : Bool := valCk s == 0
noncomputable def kindB (r : Rc) : Bool :=
  if r.kind = 1 then r.page == 0 && r.other == 0 && emptyB r.key && emptyB r.value
  else if r.kind = 4 then pagedB r.page && r.other == 0 && emptyB r.key && imgB r.value
  else if r.kind = 2 then pagedB r.page && r.other == 0 && keyOk r.key && valOk r.value
  else if r.kind = 3 then pagedB r.page && r.other == 0 && keyOk r.key && emptyB r.value
  else if r.kind = 5 ∨ r.kind = 6 then pagedB r.page && pagedB r.other && keyOk r.key && emptyB r.value
  else if r.kind = 7 then r.page == 0 && (r.other == 1 || r.other == 2) && keyOk r.key && (emptyB r.value || r.other == 1 && valOk r.value)
  else false
def reqB (r : Rc) : Bool := if r.kind = 7 then decide (1 ≤ r.req) && decide (r.req ≤ 1099511627776) else r.req == 0
noncomputable def okR (r : Rc) : Bool := headK r && kindB r && reqB r
noncomputable def ckR (r : Rc) : Int := if okR r then 0 else 90
end Go.Proofs.Ythpfkdaijiaalaa
