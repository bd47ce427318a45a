/- Records that came in, as they are read. -/
import Derived.Test.YthpfkdaijiaalaaAF
import Derived.Test.YthpfkdaijiaalaaBA
namespace Go.Proofs.Ythpfkdaijiaalaa
open Go.RowKit Go.Deep

theorem list8 {α : Type} {l : List α} (h : l.length = 8) : ∃ a b c d e f g i, l = [a, b, c, d, e, f, g, i] := by
  match l, h with
  | [a, b, c, d, e, f, g, i], _ => exact ⟨a, b, c, d, e, f, g, i, rfl⟩
theorem Try.c46 : Try.prog.cellsOf 46 = 8 := by kernel_rfl
theorem Try.ER : Elt Try.prog 58 46 rcL 8 80 := by
  refine ⟨Try.underlying58, ?_, by omega, fun _ => rfl, ?_⟩
  · have h : (Try.prog.info? 46).map (fun i => (i.zero, i.size, i.bytes)) = some (some (.agg #[.int .i64 0, .int .i64 0, .int .i64 0, .int .i64 0, .int .i64 0, .int .i64 0, .string ⟨#[]⟩, .string ⟨#[]⟩]), 8, 80) := by kernel_rfl
    obtain ⟨i, hi, h1, h2, h3⟩ := info_parts h
    exact ⟨i, _, hi, h1, h2, h3, rfl⟩
  · intro x u hu
    simp only [rcL, List.mem_cons, List.not_mem_nil, or_false] at hu
    rcases hu with rfl | rfl | rfl | rfl | rfl | rfl | rfl | rfl <;> rfl
/-- What is known of a record that came in. -/
structure RcG (r : Rc) : Prop where
  S : RcS r
  lsn : -9223372036854775808 ≤ r.lsn ∧ r.lsn ≤ 9223372036854775807
  epoch : -9223372036854775808 ≤ r.epoch ∧ r.epoch ≤ 9223372036854775807
section
variable {H : Type} {e0 : TypeId × Value → H} {w : World}
theorem elr_rec : ElR e0 Try.prog w 46 rcL RcG := fun fuel cs d ps h hz => by
  obtain ⟨hl, hf⟩ := rd_field Try.underlying46 h hz
  rw [Try.c46] at hl
  obtain ⟨v0, v1, v2, v3, v4, v5, v6, v7, rfl⟩ := list8 hl
  obtain ⟨m0, d0, p0, h0, z0⟩ := hf 0 _ rfl
  obtain ⟨m1, d1, p1, h1, z1⟩ := hf 1 _ rfl
  obtain ⟨m2, d2, p2, h2, z2⟩ := hf 2 _ rfl
  obtain ⟨m3, d3, p3, h3, z3⟩ := hf 3 _ rfl
  obtain ⟨m4, d4, p4, h4, z4⟩ := hf 4 _ rfl
  obtain ⟨m5, d5, p5, h5, z5⟩ := hf 5 _ rfl
  obtain ⟨m6, d6, p6, h6, z6⟩ := hf 6 _ rfl
  obtain ⟨m7, d7, p7, h7, z7⟩ := hf 7 _ rfl
  have h0 : Tr e0 Try.prog w m0 3 [v0] d0 p0 := by simpa [Try.c3] using h0
  have h1 : Tr e0 Try.prog w m1 3 [v1] d1 p1 := by simpa [Try.c3] using h1
  have h2 : Tr e0 Try.prog w m2 3 [v2] d2 p2 := by simpa [Try.c3] using h2
  have h3 : Tr e0 Try.prog w m3 3 [v3] d3 p3 := by simpa [Try.c3] using h3
  have h4 : Tr e0 Try.prog w m4 3 [v4] d4 p4 := by simpa [Try.c3] using h4
  have h5 : Tr e0 Try.prog w m5 3 [v5] d5 p5 := by simpa [Try.c3] using h5
  have h6 : Tr e0 Try.prog w m6 9 [v6] d6 p6 := by simpa [Try.c9] using h6
  have h7 : Tr e0 Try.prog w m7 9 [v7] d7 p7 := by simpa [Try.c9] using h7
  obtain ⟨x0, q0, b0⟩ := elr_i64 Try.underlying3 _ _ _ _ h0 z0
  obtain ⟨x1, q1, b1⟩ := elr_i64 Try.underlying3 _ _ _ _ h1 z1
  obtain ⟨x2, q2, _⟩ := elr_i64 Try.underlying3 _ _ _ _ h2 z2
  obtain ⟨x3, q3, _⟩ := elr_i64 Try.underlying3 _ _ _ _ h3 z3
  obtain ⟨x4, q4, _⟩ := elr_i64 Try.underlying3 _ _ _ _ h4 z4
  obtain ⟨x5, q5, _⟩ := elr_i64 Try.underlying3 _ _ _ _ h5 z5
  obtain ⟨x6, q6, b6⟩ := elr_str Try.underlying9 _ _ _ _ h6 z6
  obtain ⟨x7, q7, b7⟩ := elr_str Try.underlying9 _ _ _ _ h7 z7
  simp [encI, encS] at q0 q1 q2 q3 q4 q5 q6 q7
  subst q0 q1 q2 q3 q4 q5 q6 q7
  exact ⟨⟨x0, x1, x2, x3, x4, x5, x6, x7⟩, rfl, ⟨b6, b7⟩, b0, b1⟩
end
end Go.Proofs.Ythpfkdaijiaalaa
