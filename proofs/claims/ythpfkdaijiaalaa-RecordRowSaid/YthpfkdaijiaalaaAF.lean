/- Arguments, as they are read. -/
import Derived.Test.YthpfkdaijiaalaaY
import Derived.ProofKit
import Derived.OpenShut
import Derived.ShutString
import Derived.ChangeOld
import Derived.Below
import Derived.SizedLaws
import Derived.Deep.Slices
import Derived.Lib.SmallJoins
namespace Go.Proofs.Ythpfkdaijiaalaa
open Go.RowKit Go.Deep

section
variable {H : Type} {e0 : TypeId × Value → H} {P : Program} {w : World}
abbrev Tr {H : Type} (e0 : TypeId × Value → H) (P : Program) (w : World) (fuel : Nat) (t : TypeId) (cs : List Value) (d : DataW H) (ps : List MemPlace) : Prop := DataW.trod e0 P w 0 (fun _ => true) true fuel t cs = some (d, ps)
def Sm {H : Type} (P : Program) (t : TypeId) (d : DataW H) : Prop := ∀ n, n ∈ d.weights P t → n ≤ 140737488351232
/-- What the cells of an element are. -/
def ElR {H α : Type} (e0 : TypeId × Value → H) (P : Program) (w : World) (e : TypeId) (enc : α → List Value) (good : α → Prop) : Prop := ∀ fuel cs d ps, Tr e0 P w fuel e cs d ps → Sm P e d → ∃ x, cs = enc x ∧ good x

theorem Elt.cells {α : Type} {enc : α → List Value} {t e : TypeId} {sz bytes : Nat} (E : Elt P t e enc sz bytes) : P.cellsOf e = sz ∧ P.bytesOf e = bytes := by
  obtain ⟨i, z, hi, _, hs, hb, _⟩ := E.info
  simp [Program.cellsOf, Program.bytesOf, hi, hs, hb]
theorem list_of {α : Type} (p : Nat → α → Prop) : ∀ (n : Nat), (∀ i, i < n → ∃ x, p i x) → ∃ xs : List α, xs.length = n ∧ ∀ i x, xs[i]? = some x → p i x
  | 0, _ => ⟨[], rfl, fun i x h => by simp at h⟩
  | n + 1, h => by
    obtain ⟨xs, hl, hx⟩ := list_of p n (fun i hi => h i (by omega))
    obtain ⟨y, hy⟩ := h n (by omega)
    refine ⟨xs ++ [y], by simp [hl], fun i x hi => ?_⟩
    by_cases hi' : i < n
    · rw [List.getElem?_append_left (by omega)] at hi; exact hx i x hi
    · have : i = n := by
        have := (List.getElem?_eq_some_iff.1 hi).1
        simp at this; omega
      subst this
      rw [List.getElem?_append_right (by omega), hl] at hi
      simp at hi; subst hi; exact hy
theorem weightsAll_mem {e : TypeId} : ∀ {ds : List (DataW H)} {d : DataW H} {n : Nat}, d ∈ ds → n ∈ d.weights P e → n ∈ DataW.weightsAll P e ds
  | d0 :: ds, d, n, hd, hn => by
    simp only [DataW.weightsAll, List.mem_append]
    rcases List.mem_cons.1 hd with rfl | hd
    · exact .inl hn
    · exact .inr (weightsAll_mem hd hn)
theorem rd_slice {α : Type} {enc : α → List Value} {good : α → Prop} {t e : TypeId} {sz bytes : Nat} (E : Elt P t e enc sz bytes) (hE : ElR e0 P w e enc good) {fuel : Nat} {cs : List Value} {d : DataW H} {ps : List MemPlace} (h : Tr e0 P w fuel t cs d ps) (hz : Sm P t d) :
    ∃ A n c xs, cs = [.slice A n c] ∧ SlAt enc w A n c xs ∧ n * bytes ≤ 140737488351232 ∧ ∀ x, x ∈ xs → good x := by
  obtain ⟨hc1, hb1⟩ := E.cells
  rcases open_slice E.ht h with ⟨rfl, _⟩ | ⟨a, len, cap, m, n, D, Pl, rfl, _, hlc, hcm, hm, hx, hel⟩
  · exact ⟨none, 0, 0, [], rfl, SlAt.nil_ _ _, by omega, fun x hx => by simp at hx⟩
  · simp only [Prod.mk.injEq] at hx
    obtain ⟨rfl, _⟩ := hx
    have hm' : m = cap := hm
    subst hm'
    have hw : len * bytes ≤ 140737488351232 := by
      have := hz ((((List.range len).map D).length + ((List.range (m - len)).map fun j => D (len + j)).length) * P.bytesOf e) (by simp [DataW.weights, E.ht])
      simp only [List.length_map, List.length_range, hb1] at this
      exact Nat.le_trans (Nat.mul_le_mul_right _ (by omega)) this
    obtain ⟨xs, hl, hxs⟩ := list_of (fun i x => w.cells? 0 (a.add (i * sz)) sz = some (enc x) ∧ good x) len (fun i hi => by
      obtain ⟨cs', h1, h2⟩ := hel i (by omega)
      obtain ⟨x, rfl, hg⟩ := hE n cs' _ _ h2 (fun k hk => hz k (by
        simp only [DataW.weights, E.ht, List.mem_cons, List.mem_append]
        exact .inr (.inl (weightsAll_mem (List.mem_map.2 ⟨i, List.mem_range.2 hi, rfl⟩) hk))))
      rw [hc1] at h1
      exact ⟨x, h1, hg⟩)
    refine ⟨some a, len, m, xs, rfl, ⟨hl, hlc, by simp only [maxLen] at hcm; omega, (fun h => by cases h), fun _ => ⟨a, rfl, fun j u hj => ?_⟩⟩, hw, fun x hx => ?_⟩
    · have hfl := flat_len E.len xs
      have hj' := (List.getElem?_eq_some_iff.1 hj).1
      rw [hfl] at hj'
      have hpos := E.pos
      have hi : j / sz < xs.length := by rw [Nat.div_lt_iff_lt_mul hpos]; exact hj'
      have hk : j % sz < sz := Nat.mod_lt _ hpos
      have hjj : j = j / sz * sz + j % sz := by rw [Nat.mul_comm]; exact (Nat.div_add_mod j sz).symm
      have hg : xs[j / sz]? = some xs[j / sz] := List.getElem?_eq_getElem hi
      have hc := (hxs _ _ hg).1
      rw [hjj, flat_get E.len xs _ _ hg _ hk] at hj
      have h3 := (World.cells?_some hc).2.2 _ hk
      rw [hj, add_add] at h3
      rw [hjj]; exact h3
    · obtain ⟨i, hi⟩ := List.getElem?_of_mem hx
      exact (hxs i x hi).2
theorem rd_field {t : TypeId} {fs : Array Field} {fuel : Nat} {cs : List Value} {d : DataW H} {ps : List MemPlace} (ht : P.underlying t = some (.struct fs)) (h : Tr e0 P w fuel t cs d ps) (hz : Sm P t d) :
    cs.length = P.cellsOf t ∧ ∀ (i : Nat) (f : Field), fs[i]? = some f → ∃ m di pi, Tr e0 P w m f.type ((cs.drop f.offset).take (P.cellsOf f.type)) di pi ∧ Sm P f.type di := by
  obtain ⟨xs, n, _, hx, hl, hxl, hf⟩ := DataW.trod_struct ht h
  simp only [Prod.mk.injEq] at hx
  obtain ⟨rfl, _⟩ := hx
  refine ⟨hl, fun i f hi => ?_⟩
  have hlt : i < xs.length := by rw [hxl]; exact (Array.getElem?_eq_some_iff.1 hi).1
  have h1 := hf i f hi
  rw [List.getElem?_eq_getElem hlt] at h1
  refine ⟨n, xs[i].1, xs[i].2, h1, fun k hk => hz k ?_⟩
  simp only [DataW.weights, ht]
  refine DataW.weights_mem_each (j := i) ?_ ?_ k hk
  · simp only [List.getElem?_map, Array.getElem?_toList, hi]; rfl
  · simp only [List.getElem?_map, List.getElem?_eq_getElem hlt]; rfl
theorem elr_int {k : IntKind} {t : TypeId} (ht : P.underlying t = some (.int k)) : ElR e0 P w t (fun n => [.int k n]) (fun n => (Lit.int k n).wf = true) := fun fuel cs d ps h _ => by
  obtain ⟨n, rfl, _, hw⟩ := DataW.trod_int ht h
  exact ⟨n, rfl, hw⟩
theorem elr_i64 {t : TypeId} (ht : P.underlying t = some (.int .i64)) : ElR e0 P w t encI (fun n => -9223372036854775808 ≤ n ∧ n ≤ 9223372036854775807) := fun fuel cs d ps h _ => by
  obtain ⟨n, rfl, _, hw⟩ := DataW.trod_int ht h
  exact ⟨n, rfl, bounds_i64 hw⟩
theorem elr_u8 {t : TypeId} (ht : P.underlying t = some (.int .u8)) : ElR e0 P w t enc8 (fun _ => True) := fun fuel cs d ps h _ => by
  obtain ⟨n, rfl, _, hw⟩ := DataW.trod_int ht h
  have hb := bounds_u8 hw
  obtain ⟨m, rfl⟩ := Int.eq_ofNat_of_zero_le hb.1
  refine ⟨UInt8.ofNat m, ?_, trivial⟩
  simp only [enc8, u8v]
  rw [UInt8.toNat_ofNat_of_lt' (show m < 256 by omega)]
theorem elr_str {t : TypeId} (ht : P.underlying t = some .string) : ElR e0 P w t encS (fun s => s.size ≤ 140737488351232) := fun fuel cs d ps h hz => by
  obtain ⟨s, rfl, hx, _⟩ := DataW.trod_string ht h
  simp only [Prod.mk.injEq] at hx
  obtain ⟨rfl, _⟩ := hx
  refine ⟨s, rfl, ?_⟩
  have := hz s.data.toList.length (by simp [DataW.weights])
  rw [Array.length_toList] at this
  exact this
end
section
variable {H : Type} {e0 : TypeId × Value → H} {w : World}
theorem sm_of {P : Program} {ts : List TypeId} {ds : List (DataW H)} (h : (DataW.weightsEach P ts ds).all (· ≤ reachBytes) = true) {j : Nat} {t : TypeId} {d : DataW H} (ht : ts[j]? = some t) (hd : ds[j]? = some d) : Sm P t d := fun n hn => by
  have := List.all_eq_true.1 h _ (DataW.weights_mem_each ht hd n hn)
  exact of_decide_eq_true this
theorem arr_of {α : Type} {cs cs' : Array α} (h : cs.toList = cs'.toList) : cs = cs' := by cases cs; cases cs'; simp at h; simpa using h
theorem Try.own : ownKnob Try.prog.godebug = none := by kernel_rfl
theorem Try.laidOut : laidOutB Try.prog = true := by kernel_rfl
theorem list1 {α : Type} {l : List α} (h : l.length = 1) : ∃ a, l = [a] := by
  match l, h with
  | [a], _ => exact ⟨a, rfl⟩
theorem list7 {α : Type} {l : List α} (h : l.length = 7) : ∃ a b c d e f g, l = [a, b, c, d, e, f, g] := by
  match l, h with
  | [a, b, c, d, e, f, g], _ => exact ⟨a, b, c, d, e, f, g, rfl⟩
theorem Try.c3 : Try.prog.cellsOf 3 = 1 := by kernel_rfl
theorem Try.c9 : Try.prog.cellsOf 9 = 1 := by kernel_rfl
theorem Try.c22 : Try.prog.cellsOf 22 = 1 := by kernel_rfl
theorem Try.c23 : Try.prog.cellsOf 23 = 1 := by kernel_rfl
theorem Try.c25 : Try.prog.cellsOf 25 = 7 := by kernel_rfl
/-- A node that came in. -/
theorem rd_node {fuel : Nat} {cs : List Value} {d : DataW H} {ps : List MemPlace} (h : Tr e0 Try.prog w fuel 25 cs d ps) (hz : Sm Try.prog 25 d) :
    ∃ n A4 n4 c4 A5 n5 c5 A6 n6 c6, cs = (ndC n A4 n4 c4 A5 n5 c5 A6 n6 c6).toList ∧ NdAt w n A4 n4 c4 A5 n5 c5 A6 n6 c6 := by
  obtain ⟨hl, hf⟩ := rd_field Try.underlying25 h hz
  rw [Try.c25] at hl
  obtain ⟨v0, v1, v2, v3, v4, v5, v6, rfl⟩ := list7 hl
  obtain ⟨m0, d0, p0, h0, z0⟩ := hf 0 _ rfl
  obtain ⟨m1, d1, p1, h1, z1⟩ := hf 1 _ rfl
  obtain ⟨m2, d2, p2, h2, z2⟩ := hf 2 _ rfl
  obtain ⟨m3, d3, p3, h3, z3⟩ := hf 3 _ rfl
  obtain ⟨m4, d4, p4, h4, z4⟩ := hf 4 _ rfl
  obtain ⟨m5, d5, p5, h5, z5⟩ := hf 5 _ rfl
  obtain ⟨m6, d6, p6, h6, z6⟩ := hf 6 _ rfl
  have h0 : Tr e0 Try.prog w m0 3 [v0] d0 p0 := by simpa [Try.c3] using h0
  have z0 : Sm Try.prog 3 d0 := z0
  have h1 : Tr e0 Try.prog w m1 3 [v1] d1 p1 := by simpa [Try.c3] using h1
  have z1 : Sm Try.prog 3 d1 := z1
  have h2 : Tr e0 Try.prog w m2 3 [v2] d2 p2 := by simpa [Try.c3] using h2
  have z2 : Sm Try.prog 3 d2 := z2
  have h3 : Tr e0 Try.prog w m3 9 [v3] d3 p3 := by simpa [Try.c9] using h3
  have z3 : Sm Try.prog 9 d3 := z3
  have h4 : Tr e0 Try.prog w m4 22 [v4] d4 p4 := by simpa [Try.c22] using h4
  have z4 : Sm Try.prog 22 d4 := z4
  have h5 : Tr e0 Try.prog w m5 22 [v5] d5 p5 := by simpa [Try.c22] using h5
  have z5 : Sm Try.prog 22 d5 := z5
  have h6 : Tr e0 Try.prog w m6 23 [v6] d6 p6 := by simpa [Try.c23] using h6
  have z6 : Sm Try.prog 23 d6 := z6
  obtain ⟨level, q0, _⟩ := elr_i64 Try.underlying3 _ _ _ _ h0 z0
  obtain ⟨lsn, q1, _⟩ := elr_i64 Try.underlying3 _ _ _ _ h1 z1
  obtain ⟨right, q2, _⟩ := elr_i64 Try.underlying3 _ _ _ _ h2 z2
  obtain ⟨high, q3, bh⟩ := elr_str Try.underlying9 _ _ _ _ h3 z3
  obtain ⟨A4, n4, c4, keys, q4, s4, b4, g4⟩ := rd_slice Try.ES (elr_str Try.underlying9) h4 z4
  obtain ⟨A5, n5, c5, vals, q5, s5, b5, g5⟩ := rd_slice Try.ES (elr_str Try.underlying9) h5 z5
  obtain ⟨A6, n6, c6, kids, q6, s6, b6, g6⟩ := rd_slice Try.EI (elr_i64 Try.underlying3) h6 z6
  simp [encI, encS] at q0 q1 q2 q3 q4 q5 q6
  subst q0 q1 q2 q3 q4 q5 q6
  exact ⟨⟨level, lsn, right, high, keys, vals, kids⟩, A4, n4, c4, A5, n5, c5, A6, n6, c6, rfl, s4, s5, s6, by omega, by omega, by omega, bh, g4, g5⟩
end
end Go.Proofs.Ythpfkdaijiaalaa
