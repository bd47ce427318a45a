/- 'for _, x := range slices.Backward(b) { n = n<<8 | int(x) }': the number that some bytes are. -/
import Derived.RangeFuncNested
import Derived.RangeFuncBound
import Derived.RangeFuncCalls
import Derived.RangeFuncLeaves
import Derived.RangeFuncBox
import Derived.Shelf.Abstract
import Derived.OwnWalkIn
import Derived.TacticsInMore
import Derived.LoopNIn
import Derived.LoopIn
import Derived.Test.YthpfkdaijiaalaaC
namespace Go.Proofs.Ythpfkdaijiaalaa
open Go.RowKit Go.Shelf
attribute [local go_sem] Oper.semAt_some

theorem add_block (ad : Addr) (j : Nat) : (ad.add j).block = ad.block := by unfold Addr.add; split <;> rfl
def upto {α : Type} (f : Nat → α) (k : Nat) : List α := (List.range k).map f
theorem upto_succ {α : Type} (f : Nat → α) (k : Nat) : upto f (k + 1) = upto f k ++ [f k] := by simp [upto, List.range_succ]
theorem upto_length {α : Type} (f : Nat → α) (k : Nat) : (upto f k).length = k := by simp [upto]

/-- What lies below n₀ is as it was, and so is block Bs. -/
def KB (n₀ Bs : Nat) (W W' : World) : Prop := Below n₀ W W' ∧ W'.heap[Bs]? = W.heap[Bs]?
theorem KB.trans {n₀ Bs : Nat} {a b c : World} (h : KB n₀ Bs a b) (k : KB n₀ Bs b c) : KB n₀ Bs a c := ⟨h.1.trans k.1, k.2.trans h.2⟩

/-- What Backward hands out in round j. -/
def bwd (xs : List UInt8) (j : Nat) : Int × UInt8 := ((xs.length : Int) - 1 - j, xs[xs.length - 1 - j]?.getD 0)

set_option maxRecDepth 100000 in
set_option maxHeartbeats 1000000 in
theorem backward1_in (F : Fence) (n : Nat) (h8 : F.fn 141) (hro : F.round = none) (hn : 1 ≤ n) (l Bs n₀ : Nat) (A : Option Addr) (N c : Nat) (xs : List UInt8) (J Jx : List (Int × UInt8) → World → Prop)
    (hN : N ≤ 140737488355328) (hA : N ≠ 0 → ∀ ad, A = some ad → ad.block < n₀)
    (hY : ∀ pre x W, J pre W → pre.length < N → YieldAt F (n - 1) Try.prog l #[.int .i64 x.1, u8v x.2] W fun e W' =>
      (e = .returned (.bool true) ∧ J (pre ++ [x]) W' ∧ KB n₀ Bs W W') ∨ (e = .returned (.bool false) ∧ Jx (pre ++ [x]) W'))
    (W : World) (hBs : W.cell? ⟨Bs, 0, none⟩ = some (.slice A N c)) (hs : SlAt enc8 W A N c xs) (h0 : J [] W) :
    CallsIn F n Try.prog 141 #[.func (.yield l) #[] #[], .pointer (some ⟨Bs, 0, none⟩)] W fun e W' => (∃ v, e = .returned v) ∧
      ((∃ ys, ys = upto (bwd xs) N ∧ J ys W') ∨ (∃ pre, (∃ k, k ≤ N ∧ pre = upto (bwd xs) k) ∧ Jx pre W')) := by
  refine callsIn_of_wp Try.func141 rfl h8 ?_ hro
  simp only [Try.ntmps141, List.size_toArray, List.length_cons, List.length_nil, Nat.reduceAdd, Nat.reduceSub, Array.replicate_succ, Array.replicate_zero, List.push_toArray, List.append_toArray, List.nil_append, List.cons_append]
  have HS := Hd.mk hs
  have HN := Hd.mk hN
  have HA := Hd.mk hA
  clear hs hA hN
  have b3 : (N : Int) ≤ 140737488355328 := by have := HN.out; omega
  gi_wp2
  gi_loopw [3] (fun i wr => ∃ k : Nat, Hd (k ≤ N) ∧ i = .int .i64 ((N : Int) - 1 - k) ∧ J (upto (bwd xs) k) wr ∧ Hd (KB n₀ Bs W wr))
    (fun i _ => (intOf i + 1).toNat)
  case atStart => exact ⟨0, ⟨Nat.zero_le _⟩, by simp, h0, ⟨Below.refl _ _, rfl⟩⟩
  case round =>
    obtain ⟨k, hk, rfl, hJs, hnx⟩ := hrel
    have hbox := (World.cell?_of_block (a := ⟨Bs, 0, none⟩) hnx.out.2).trans hBs
    by_cases hlt : k < N
    · obtain ⟨fn, tmps, assign, body, hy, hR⟩ := hY _ (bwd xs k) wr hJs (by rw [upto_length]; exact hlt)
      have hx : xs[xs.length - 1 - k]? = some (bwd xs k).2 := by
        have : xs.length - 1 - k < xs.length := by rw [HS.out.len]; omega
        simp [bwd, this]
      obtain ⟨ad, rfl, hcell⟩ := HS.out.at_ (sz := 1) (fun _ => rfl) _ _ hx
      have hcell := (hnx.out.1.cell (p := ad.add ((xs.length - 1 - k) * 1 + 0)) (by rw [add_block]; exact HA.out (by omega) ad rfl)).trans (hcell 0 _ rfl)
      have e1 : (bwd xs k).1 = (N : Int) - 1 - k := by simp [bwd, HS.out.len]
      rw [e1] at hy
      have e2 : (xs.length - 1 - k) * 1 + 0 = N - 1 - k := by rw [HS.out.len]; omega
      rw [e2] at hcell
      have b1 : (0 : Int) ≤ (N : Int) - 1 - k := by omega
      have b2 : (N : Int) - 1 - k < N := by omega
      have hend : Hd (upto (bwd xs) k ++ [bwd xs k] = upto (bwd xs) (k + 1)) := ⟨(upto_succ _ _).symm⟩
      rw [hend.out] at hR
      simp only [u8v] at hy hcell
      generalize (bwd xs k).2 = x at hy hcell
      clear e1 e2 hx hJs hend
      have hR := Hd.mk hR
      gi_wp2
      refine hR.out.mono ?_
      rintro e W3 (⟨rfl, hJ3, hk3⟩ | ⟨rfl, hJx3⟩)
      · have hJ3 := Hd.mk hJ3
        have hk3 := Hd.mk hk3
        gi_wp2
        exact ⟨⟨k + 1, ⟨by omega⟩, by congr 1; omega, hJ3.out, ⟨hnx.out.trans hk3.out⟩⟩, by simp [intOf]; omega⟩
      · have hJx3 := Hd.mk hJx3
        gi_wp2
        refine bodyPost_ret (results_none rfl _ _ _) rfl ?_
        exact ⟨⟨_, rfl⟩, .inr ⟨_, ⟨k + 1, by omega, rfl⟩, hJx3.out⟩⟩
    · have : Hd (k = N) := ⟨by have := hk.out; omega⟩
      have b1 : (N : Int) - 1 - k < 0 := by omega
      have hJs := Hd.mk hJs
      gi_wp2
      go_end0
      exact ⟨⟨_, rfl⟩, .inl ⟨_, rfl, by have := hJs.out; rw [‹Hd (k = N)›.out] at this; exact this⟩⟩

set_option maxHeartbeats 1000000 in
theorem backward_in (F : Fence) (n : Nat) (h5 : F.fn 138) (hro : F.round = none) (A : Option Addr) (N c : Nat) (w : World) :
    CallsIn F n Try.prog 138 #[.slice A N c] w fun e w' => e = .returned (.func (.func 141) #[] #[.pointer (some ⟨w.heap.size, 0, none⟩)]) ∧ w' = w.alloc (.cells #[.slice A N c] 31) := by
  refine callsIn_of_wp Try.func138 rfl h5 ?_ hro
  simp only [Try.ntmps138, List.size_toArray, List.length_cons, List.length_nil, Nat.reduceAdd, Nat.reduceSub, Array.replicate_succ, Array.replicate_zero, List.push_toArray, List.append_toArray, List.nil_append, List.cons_append]
  gi_wp2
  go_ret
  exact ⟨rfl, rfl⟩

theorem backward_stops (F : Fence) (n : Nat) (h8 : F.fn 141) (hro : F.round = none) (hn : 1 ≤ n) (Bs n₀ : Nat) (A : Option Addr) (N c : Nat) (xs : List UInt8) (hN : N ≤ 140737488355328) (w : World) (hBs : Bs < w.heap.size)
    (hA : N ≠ 0 → ∀ ad, A = some ad → ad.block < n₀) (hc : w.cell? ⟨Bs, 0, none⟩ = some (.slice A N c)) (hs : SlAt enc8 w A N c xs) :
    SeqStopsK F n Try.prog 141 #[.pointer (some ⟨Bs, 0, none⟩)] (fun x : Int × UInt8 => #[Value.int .i64 x.1, u8v x.2]) (KB n₀ Bs) (fun ys => ys = upto (bwd xs) N)
      (fun pre => ∃ k, k ≤ N ∧ pre = upto (bwd xs) k) N w := fun l J Jx W hW _ _ hY h0 => by
  have hc' := (hW.cell (p := ⟨Bs, 0, none⟩) hBs).trans hc
  exact backward1_in F n h8 hro hn l Bs n₀ A N c xs J Jx hN hA hY W hc' (hs.ext (Keep.of_below hW)) h0

/-- The number of bytes, the least first, as an int is built of them. -/
def accN (ys : List (Int × UInt8)) : Int := ys.foldl (fun n x => bits .or .i64 (wrap64 (n * 256)) (wrap64 x.2.toNat)) 0
theorem accN_snoc (ys : List (Int × UInt8)) (y : Int × UInt8) : accN (ys ++ [y]) = bits .or .i64 (wrap64 (accN ys * 256)) (wrap64 y.2.toNat) := by simp [accN]

set_option maxRecDepth 100000 in
set_option maxHeartbeats 2000000 in
theorem number_in (F : Fence) (n : Nat) (h3 : F.fn 130) (h5 : F.fn 138) (h7 : F.fn 141) (hro : F.round = none) (hn : 3 ≤ n) (A : Option Addr) (N c : Nat) (xs : List UInt8) (hN : N ≤ 140737488355328) (w : World) (hs : SlAt enc8 w A N c xs)
    (hA : N ≠ 0 → ∀ ad, A = some ad → ad.block < w.heap.size) :
    CallsIn F n Try.prog 130 #[.slice A N c] w fun e W' => e = .returned (.int .i64 (accN (upto (bwd xs) N))) ∧ Below w.heap.size w W' := by
  have h1 : 1 ≤ n := by omega
  refine callsIn_of_wp_marks Try.func130 rfl h3 ?_ hro
  simp only [Try.ntmps130, List.size_toArray, List.length_cons, List.length_nil, Nat.reduceAdd, Nat.reduceSub, Array.replicate_succ, Array.replicate_zero, List.push_toArray, List.append_toArray, List.nil_append, List.cons_append]
  gi_wp2_with (gi_at_call 138; refine (backward_in F (n - 1) h5 hro _ _ _ _).mono ?_; rintro e w' ⟨rfl, rfl⟩)
  have bS := Boxed.new w 3 (.int .i64 0)
  have bN := Boxed.new (w.alloc (.cells #[.int .i64 0] 3)) 31 (.slice A N c)
  rw [World.size_alloc] at bN
  have hB0 : Below w.heap.size w ((w.alloc (.cells #[.int .i64 0] 3)).alloc (.cells #[.slice A N c] 31)) := ((Below.refl _ w).alloc (Nat.le_refl _) _).alloc (by simp) _
  have HS := Hd.mk hs
  clear hs
  refine wpIn_rangeFunc_ownG hro h1 (gf := 141) (lb := #[.pointer (some ⟨w.heap.size + 1, 0, none⟩)]) rfl h7 (enters_of Try.func141 (by kernel_rfl) rfl)
    (backward_stops F (n - 1) h7 hro (by omega) (w.heap.size + 1) w.heap.size A N c xs hN _ (by simp) (fun h ad e => hA h ad e) bN.cell (HS.out.ext (Keep.of_below hB0))) KB.trans (fun W l o o' hl h1 h2 h3 => ⟨belowK_b (by simp at hl ⊢; omega) W l o o' hl h1 h2 h3, by simp at hl; unfold World.putObj; simp [Array.getElem?_setIfInBounds_ne (show l ≠ w.heap.size + 1 by omega)]⟩) (Below.refl _ _) (fun _ => rfl)
    (fun pre W => (W.cell? ⟨w.heap.size, 0, none⟩ = some (.int .i64 (accN pre)) ∧ W.frozen? ⟨w.heap.size, 0, none⟩ = false) ∧ Below w.heap.size w W)
    (fun _ _ _ => False)
    (OwnFrom.and (Own.from (fun s A B row hs hg hr => ⟨cell_kept hs.1 hg hr, (frozen_kept hs.1 hg hr).trans hs.2⟩) _) (ownFrom_below (Nat.le_refl _) (by simp; omega)))
    (fun _ _ _ _ _ hs _ _ => hs)
    ⟨⟨(bS.alloc _).cell, (bS.alloc _).frozen⟩, hB0⟩
    (fun x => { tmps := #[.slice A N c, undef, .int .i64 0, .pointer (some ⟨w.heap.size, 0, none⟩), undef, u8v x.2, .slice A N c, .func (.func 141) #[] #[.pointer (some ⟨w.heap.size + 1, 0, none⟩)], .int .i64 x.1, u8v x.2, undef, undef, undef, undef, undef, undef], defers := [] }) ?assign ?body ?done ?stop
  case assign =>
    intro l x W K hK
    gi_wp2
    exact hK
  case body =>
    rintro l pre x W ⟨⟨hc, hf⟩, hB⟩ _
    simp only [u8v]
    gi_wp2
    refine ⟨(KeepsOthers.setCell _ _ _).from _, ⟨(Below.refl w.heap.size W).setCell (p := ⟨w.heap.size, 0, none⟩) (Nat.le_refl _) _, ?_⟩, ⟨?_, ?_⟩, hB.setCell (p := ⟨w.heap.size, 0, none⟩) (Nat.le_refl _) _⟩
    · exact Below.heap_setCell _ _ _ _ (by show w.heap.size + 1 ≠ w.heap.size; omega)
    · rw [accN_snoc]; refine (World.cell?_setCell_same' _ _ _ (by rw [hc]; rfl)).trans ?_
      rfl
    · rw [World.frozen?_setCell]; exact hf
  case done =>
    rintro D ys W hD rfl ⟨⟨hc, _⟩, hB⟩ hK
    gi_wp2
    refine ⟨by simp, .inl ⟨_, _, rfl, run_takeDeferred hK, ?_⟩⟩
    exact ⟨_, results_tmp rfl _ _ _, rfl, hB.trans (belowK_b (w := w) (Nat.le_refl _) W D _ _ (by simp at hD; omega) hK rfl rfl)⟩
  case stop =>
    rintro D c pre W _ _ h _
    exact h.elim

theorem or_byte (L : Nat) (hL : L < 72057594037927936) (x : UInt8) : bits .or .i64 (wrap64 ((L : Int) * 256)) (wrap64 x.toNat) = wrap64 ((L : Int) * 256 + x.toNat) := by
  have hx := x.toNat_lt
  have hw : wrap64 (x.toNat : Int) = x.toNat := by unfold wrap64; omega
  have h1 : (BitVec.ofInt 64 (wrap64 ((L : Int) * 256))).toNat = L * 256 := by
    rw [BitVec.toNat_ofInt]; unfold wrap64; omega
  have h2 : (BitVec.ofInt 64 (x.toNat : Int)).toNat = x.toNat := by
    rw [BitVec.toNat_ofInt]; omega
  rw [hw]
  show IntKind.i64.wrap ((BitVec.ofInt 64 (wrap64 ((L : Int) * 256)) ||| BitVec.ofInt 64 (x.toNat : Int)).toNat : Int) = _
  have h3 : L * 256 ||| x.toNat = L * 256 + x.toNat := by
    have := Nat.two_pow_add_eq_or_of_lt (i := 8) (b := x.toNat) (by omega) L
    rw [show (2 : Nat) ^ 8 * L = L * 256 from by rw [Nat.mul_comm]] at this
    exact this.symm
  rw [BitVec.toNat_or, h1, h2, h3, IntKind.wrap_i64]
  unfold wrap64; omega
theorem leN_lt (xs : List UInt8) : leN xs < 256 ^ xs.length := by
  induction xs with
  | nil => simp [leN]
  | cons x xs ih => have := x.toNat_lt; simp only [leN, List.length_cons, Nat.pow_succ]; omega
theorem accN_eq (xs : List UInt8) (h8 : xs.length ≤ 8) : ∀ k, k ≤ xs.length → accN (upto (bwd xs) k) = wrap64 (leN (xs.drop (xs.length - k))) := by
  intro k
  induction k with
  | zero => intro _; simp [upto, accN, leN, wrap64]
  | succ k ih =>
    intro hk
    have ih := ih (by omega)
    rw [upto_succ, accN_snoc, ih]
    have hd : xs.drop (xs.length - (k + 1)) = (bwd xs k).2 :: xs.drop (xs.length - k) := by
      rw [List.drop_eq_getElem_cons (by omega)]
      have e1 : xs.length - 1 - k < xs.length := by omega
      have e2 : xs.length - (k + 1) = xs.length - 1 - k := by omega
      simp [bwd, e1, e2, show xs.length - 1 - k + 1 = xs.length - k by omega]
    have hl := leN_lt (xs.drop (xs.length - k))
    have hlt : leN (xs.drop (xs.length - k)) < 72057594037927936 := by
      refine Nat.lt_of_lt_of_le hl ?_
      rw [List.length_drop, show (72057594037927936 : Nat) = 256 ^ 7 by rfl]
      exact Nat.pow_le_pow_right (by omega) (by omega)
    have hw : wrap64 (leN (xs.drop (xs.length - k)) : Int) = leN (xs.drop (xs.length - k)) := by unfold wrap64; omega
    rw [hw, or_byte _ hlt, hd, leN]
    congr 1
    simp only [Int.natCast_add, Int.natCast_mul]
    omega

theorem number_any (A : Option Addr) (N c : Nat) (xs : List UInt8) (h8 : N ≤ 8) (w : World) (hs : SlAt enc8 w A N c xs) :
    Calls Try.prog 130 #[.slice A N c] w fun e w' => e = .returned (.int .i64 (wrap64 (leN xs))) ∧ Ext w w' := by
  have hl := hs.len
  have hacc : accN (upto (bwd xs) N) = wrap64 (leN xs) := by
    rw [← hl, accN_eq xs (by omega) _ (Nat.le_refl _)]; simp
  refine (callsIn_wide (n := 3)).1 ?_
  refine (number_in Fence.wide 3 trivial trivial trivial rfl (by omega) A N c xs (by omega) w hs ?_).mono ?_
  · intro h0 ad e
    have hne : flat enc8 xs ≠ [] := by
      cases xs with
      | nil => simp at hl; omega
      | cons x xs => simp [flat, enc8]
    obtain ⟨ad', e', hc⟩ := hs.src hne
    rw [e] at e'; cases e'
    cases xs with
    | nil => simp at hl; omega
    | cons x xs =>
      have := World.block_lt_of_cell? w _ (hc 0 (u8v x) (by simp [flat, enc8]))
      simpa [add_block] using this
  · rintro e w' ⟨rfl, hb⟩
    exact ⟨by rw [hacc], Keep.of_below hb⟩
end Go.Proofs.Ythpfkdaijiaalaa
