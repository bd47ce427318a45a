/- The node's statements: what is right, and how large. -/
import Derived.Test.YthpfkdaijiaalaaAB
import Derived.Deep.RegionHeld3
namespace Go.Proofs.Ythpfkdaijiaalaa
open Go.RowKit

/-- A node that came in, boxed, somewhat later. -/
structure Bx (w W : World) (g : Nat) (n : Nd) (A4 : Option Addr) (n4 c4 : Nat) (A5 : Option Addr) (n5 c5 : Nat) (A6 : Option Addr) (n6 c6 : Nat) : Prop where
  ext : Ext w W
  box : W.heap[g]? = some (.cells (ndC n A4 n4 c4 A5 n5 c5 A6 n6 c6) 25 (0, 0))
  nd : NdAt W n A4 n4 c4 A5 n5 c5 A6 n6 c6
section
variable {w W W' : World} {g : Nat} {n : Nd} {A4 : Option Addr} {n4 c4 : Nat} {A5 : Option Addr} {n5 c5 : Nat} {A6 : Option Addr} {n6 c6 : Nat}
theorem Bx.go (h : Bx w W g n A4 n4 c4 A5 n5 c5 A6 n6 c6) (hk : Ext W W') : Bx w W' g n A4 n4 c4 A5 n5 c5 A6 n6 c6 := ⟨h.ext.then' hk, hk.blk h.box id, h.nd.ext hk⟩
theorem Bx.drew (h : Bx w W g n A4 n4 c4 A5 n5 c5 A6 n6 c6) : Bx w W.drew g n A4 n4 c4 A5 n5 c5 A6 n6 c6 := h.go (ext_refl W).drew
end
theorem Bx.first {w W : World} {n : Nd} {A4 : Option Addr} {n4 c4 : Nat} {A5 : Option Addr} {n5 c5 : Nat} {A6 : Option Addr} {n6 c6 : Nat} (h : NdAt w n A4 n4 c4 A5 n5 c5 A6 n6 c6)
    (e : w.alloc (.cells #[.int .i64 n.level, .int .i64 n.lsn, .int .i64 n.right, .string n.high, .slice A4 n4 c4, .slice A5 n5 c5, .slice A6 n6 c6] 25) = W) : Bx w W w.heap.size n A4 n4 c4 A5 n5 c5 A6 n6 c6 := by
  subst e
  exact ⟨(ext_refl w).alloc _, heap_alloc_new w _, h.ext ((ext_refl w).alloc _)⟩

set_option maxRecDepth 100000 in
set_option maxHeartbeats 4000000 in
theorem lawChecks (n : Nd) (A4 : Option Addr) (n4 c4 : Nat) (A5 : Option Addr) (n5 c5 : Nat) (A6 : Option Addr) (n6 c6 : Nat) (w : World) (h : NdAt w n A4 n4 c4 A5 n5 c5 A6 n6 c6) :
    Calls Try.prog 3 #[ndV n A4 n4 c4 A5 n5 c5 A6 n6 c6] w fun e w' => e = .returned (.bool true) ∧ Ext w w' := by
  refine hide_post fun R hR => ?_
  have H := Hd.mk h; clear h
  obtain ⟨level, lsn, right, high, keys, vals, kids⟩ := n
  obtain ⟨x, hx⟩ : ∃ x, okE ⟨level, lsn, right, high, keys, vals, kids⟩ = x := ⟨_, rfl⟩
  obtain ⟨z, hz⟩ : ∃ z, wrap64 (sizeT ⟨level, lsn, right, high, keys, vals, kids⟩) = z := ⟨_, rfl⟩
  have hx := Hd.mk hx
  have hz := Hd.mk hz
  simp only [ndV]
  go_enter Try.func3, Try.ntmps3
  go_upto_region 1 with fail
  obtain ⟨W, hW⟩ : ∃ W, w.alloc (.cells #[.int .i64 level, .int .i64 lsn, .int .i64 right, .string high, .slice A4 n4 c4, .slice A5 n5 c5, .slice A6 n6 c6] 25) = W := ⟨_, rfl⟩
  have hcur := Hd.mk (Bx.first H.out hW)
  rw [hW]
  clear hW
  obtain ⟨g, hg⟩ : ∃ g, w.heap.size = g := ⟨_, rfl⟩
  rw [hg] at hcur ⊢
  clear hg
  obtain ⟨hc0, hc1, hc2, hc3, hc4, hc5, hc6⟩ := nd_facts hcur.out.box
  obtain ⟨he0, he1, he2, he3, he4, he5, he6⟩ := nd_facts hcur.out.drew.box
  go_region_held3 (fun w' => w'.cell? ⟨g, 0, none⟩ = some (.int .i64 level) ∧ w'.cell? ⟨g, 1, none⟩ = some (.int .i64 lsn) ∧ w'.cell? ⟨g, 2, none⟩ = some (.int .i64 right) ∧ w'.cell? ⟨g, 3, none⟩ = some (.string high) ∧ w'.cell? ⟨g, 4, none⟩ = some (.slice A4 n4 c4) ∧ w'.cell? ⟨g, 5, none⟩ = some (.slice A5 n5 c5) ∧ w'.cell? ⟨g, 6, none⟩ = some (.slice A6 n6 c6)) (first | exact ⟨hc0, hc1, hc2, hc3, hc4, hc5, hc6⟩ | exact ⟨he0, he1, he2, he3, he4, he5, he6⟩) (first
    | (go_at_call 25; go_must (refine (check_any (⟨level, lsn, right, high, keys, vals, kids⟩ : Nd) A4 n4 c4 A5 n5 c5 A6 n6 c6 _ ?_).mono ?_; (first | exact hcur.out.nd | exact hcur.out.drew.nd); rintro e w' ⟨rfl, hk⟩; rw [hx.out]; (first | (have hcurq := Hd.mk (hcur.out.go hk)) | (have hcurq := Hd.mk (hcur.out.drew.go hk))); clear hk hcur hc0 hc1 hc2 hc3 hc4 hc5 hc6; have hcur := hcurq; clear hcurq; obtain ⟨hc0, hc1, hc2, hc3, hc4, hc5, hc6⟩ := nd_facts hcur.out.box))
    | (go_at_call 26; go_must (refine (refcheck_any (⟨level, lsn, right, high, keys, vals, kids⟩ : Nd) A4 n4 c4 A5 n5 c5 A6 n6 c6 _ ?_).mono ?_; (first | exact hcur.out.nd | exact hcur.out.drew.nd); rintro e w' ⟨rfl, hk⟩; rw [hx.out]; (first | (have hcurq := Hd.mk (hcur.out.go hk)) | (have hcurq := Hd.mk (hcur.out.drew.go hk))); clear hk hcur hc0 hc1 hc2 hc3 hc4 hc5 hc6; have hcur := hcurq; clear hcurq; obtain ⟨hc0, hc1, hc2, hc3, hc4, hc5, hc6⟩ := nd_facts hcur.out.box))
    | (go_at_call 27; go_must (refine (size_any (⟨level, lsn, right, high, keys, vals, kids⟩ : Nd) A4 n4 c4 A5 n5 c5 A6 n6 c6 _ ?_).mono ?_; (first | exact hcur.out.nd | exact hcur.out.drew.nd); rintro e w' ⟨rfl, hk⟩; rw [hz.out]; (first | (have hcurq := Hd.mk (hcur.out.go hk)) | (have hcurq := Hd.mk (hcur.out.drew.go hk))); clear hk hcur hc0 hc1 hc2 hc3 hc4 hc5 hc6; have hcur := hcurq; clear hcurq; obtain ⟨hc0, hc1, hc2, hc3, hc4, hc5, hc6⟩ := nd_facts hcur.out.box))
    | (go_at_call 28; go_must (refine (refsize_any (⟨level, lsn, right, high, keys, vals, kids⟩ : Nd) A4 n4 c4 A5 n5 c5 A6 n6 c6 _ ?_).mono ?_; (first | exact hcur.out.nd | exact hcur.out.drew.nd); rintro e w' ⟨rfl, hk⟩; rw [hz.out]; (first | (have hcurq := Hd.mk (hcur.out.go hk)) | (have hcurq := Hd.mk (hcur.out.drew.go hk))); clear hk hcur hc0 hc1 hc2 hc3 hc4 hc5 hc6; have hcur := hcurq; clear hcurq; obtain ⟨hc0, hc1, hc2, hc3, hc4, hc5, hc6⟩ := nd_facts hcur.out.box))
    | (go_at_call 29; refine (speaks6_any _).mono ?_; rintro e w' ⟨rfl, hk⟩; (first | (have hcurq := Hd.mk (hcur.out.go hk)) | (have hcurq := Hd.mk (hcur.out.drew.go hk))); clear hk hcur hc0 hc1 hc2 hc3 hc4 hc5 hc6; have hcur := hcurq; clear hcurq; obtain ⟨hc0, hc1, hc2, hc3, hc4, hc5, hc6⟩ := nd_facts hcur.out.box))
  all_goals
    go_wp2_with fail
    first | exact hR.out _ _ ⟨rfl, hcur.out.ext⟩ | (go_ret; exact hR.out _ _ ⟨rfl, hcur.out.ext⟩)
end Go.Proofs.Ythpfkdaijiaalaa
