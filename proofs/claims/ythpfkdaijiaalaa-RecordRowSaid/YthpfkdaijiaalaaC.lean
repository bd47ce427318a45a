/- The wire's writer (texts, all bytes) and reader: what each call leaves. -/
import Derived.Test.YthpfkdaijiaalaaB
namespace Go.Proofs.Ythpfkdaijiaalaa
open Go.RowKit

/-- A slice of one's own is handed back; nothing that was there has turned. -/
def RetOwn {α : Type} (enc : α → List Value) (sz : Nat) (e : TypeId) (w : World) (xs : List α) (en : Ending) (w' : World) : Prop :=
  ∃ A c, en = .returned (.slice A xs.length c) ∧ Own enc sz e w.heap.size w' A xs.length c xs ∧ Ext w w'

theorem clone8_any (A : Option Addr) (n c : Nat) (xs : List UInt8) (w : World) (hs : SlAt enc8 w A n c xs) (hn : n ≤ 140737488355328) :
    Calls Try.prog 101 #[.slice A n c] w (RetOwn enc8 1 5 w xs) := by
  refine hide_post fun R hR => ?_
  have HS := Hd.mk hs; clear hs
  have HN := Hd.mk hn; clear hn
  have hq := fun w' => Lib.run_eql_slice_nil (P := Try.prog) w' 31 5 A n c 0 0 Try.underlying31
  cases A with
  | none =>
    have h0 : xs = [] := List.eq_nil_of_length_eq_zero (by have := HS.out.nil rfl; have := HS.out.cap; have := HS.out.len; omega)
    go_enter Try.func101, Try.ntmps101
    go_wp2
    exact hR.out _ _ ⟨none, 0, by rw [h0]; rfl, by rw [h0]; exact Own.nil_ _ _ _ _ _, ext_refl w⟩
  | some ad =>
    go_enter Try.func101, Try.ntmps101
    go_wp2_with (at_builtin; refine wp_app Try.E8 rfl _ _ rfl (B := w.heap.size) (xs := []) rfl ⟨rfl, .inl ⟨rfl, rfl⟩⟩ rfl (HS.out.ext ?c0) ?c1 ?c2 ?c3 ?_)
    case c0 => exact (ext_refl w).alloc _
    case c1 => have := HN.out; omega
    case c2 => have := HN.out; omega
    case c3 => simp
    intro A' c' w' ho hk _
    have ho := Hd.mk ho
    have hk : Hd (Ext w w') := ⟨((ext_refl w).alloc _).trans hk (fun _ _ h => h.1 rfl)⟩
    go_wp2
    refine hR.out _ _ ⟨A', c', ?_, ?_, hk.out⟩
    · rw [HS.out.len]; simp
    · rw [HS.out.len]; simpa using ho.out

theorem wtext_ok (B g : Nat) (bs : List UInt8) (s : ByteArray) (hs : s.size ≤ 65535) (w : World) (hw : Wr B w g bs) (hl : bs.length + 100000 ≤ 1000000000000) :
    Calls Try.prog 83 #[.pointer (some ⟨g, 0, none⟩), .string s] w fun e w' => e = .returned (.int .i64 0) ∧ Wr B w' g (bs ++ (leB s.size 2 ++ s.toList)) ∧ Keep (fun k => B ≤ k) w w' := by
  refine hide_post fun R hR => ?_
  have HW := Hd.mk hw; clear hw
  have HL := Hd.mk hl; clear hl
  have hs' : (s.size : Int) ≤ 65535 := by omega
  go_enter Try.func83, Try.ntmps83
  go_wp2_with fail
  refine (wnum_ok B g bs _ 2 rfl ?_ ?_ ?_ w HW.out ?_).mono ?_
  · omega
  · omega
  · intro _; omega
  · have := HL.out; omega
  rintro e w1 ⟨rfl, hW1, hk1⟩
  have hW1 := Hd.mk hW1
  have hk1 := Hd.mk hk1
  simp only [Int.toNat_natCast] at hW1
  obtain ⟨A, c, N, hN, ho, hc, hfz, hft, hg, hb⟩ := hW1.out.get
  go_wp2_with (at_builtin; refine wp_appStr Try.E8 Try.underlying9 ?c1 rfl _ _ rfl rfl ho.out rfl ?c2 ?c3 ?_)
  case c1 => have h : (Try.prog.info? 5).map (fun i => (i.zero, i.size, i.bytes)) = some (some (.int .u8 0), 1, 1) := by kernel_rfl
             obtain ⟨i, hi, h1, _⟩ := info_parts h; exact ⟨i, hi, h1⟩
  case c2 => have := HL.out; have := hN.out; simp [leB_len] at *; omega
  case c3 => have := hg.out; omega
  intro A' c' w2 ho' hk'
  obtain ⟨hc1, hf1, hb1⟩ := head_set (v' := .slice A' (N + s.size) c') hb.out hk' hft.out
  have hfin := Hd.mk (Wr.after hg.out hb.out ho.out hft.out ho' hk')
  clear hb1 ho' hk'
  go_wp2
  refine hR.out _ _ ⟨rfl, ?_, hk1.out.trans hfin.out.2 (fun k _ hk => hk)⟩
  simpa using hfin.out.1

theorem wbytes_any (B g : Nat) (bs : List UInt8) (w : World) (hw : Wr B w g bs) (hl : bs.length ≤ 1000000000000) :
    Calls Try.prog 84 #[.pointer (some ⟨g, 0, none⟩)] w (RetOwn enc8 1 5 w bs) := by
  refine hide_post fun R hR => ?_
  obtain ⟨A, c, N, hN, ho, hc, hfz, hft, hg, hb⟩ := hw.get
  have HL := Hd.mk hl; clear hl hw
  go_enter Try.func84, Try.ntmps84
  go_wp2_with fail
  refine (clone8_any A N c bs w ho.out.sl ?_).mono ?_
  · have := HL.out; have := hN.out; omega
  rintro e w1 ⟨A1, c1, rfl, ho1, hk1⟩
  have ho1 := Hd.mk ho1
  have hk1 := Hd.mk hk1
  go_wp2
  exact hR.out _ _ ⟨A1, c1, rfl, ho1.out, hk1.out⟩

/-- A reader: block g; what is left of it, and what is wrong. -/
structure RdT (T : Nat) (w : World) (g : Nat) (bs : List UInt8) (er : Int) : Prop where
  row : ∃ A N c, w.heap[g]? = some (.cells #[.slice A N c, .int .i64 er] T (0, 0)) ∧ SlAt enc8 w A N c bs ∧ (bs ≠ [] → ∀ ad, A = some ad → ad.block < g)

theorem RdT.get {T : Nat} {w : World} {g : Nat} {bs : List UInt8} {er : Int} (h : RdT T w g bs er) : ∃ A N c, Hd (N = bs.length) ∧ Hd (SlAt enc8 w A N c bs) ∧ w.cell? ⟨g, 0, none⟩ = some (.slice A N c) ∧ w.cell? ⟨g, 1, none⟩ = some (.int .i64 er) ∧ w.frozen? ⟨g, 0, none⟩ = false ∧ w.frozen? ⟨g, 1, none⟩ = false ∧
    Hd (bs ≠ [] → ∀ ad, A = some ad → ad.block < g) ∧ Hd (g < w.heap.size) ∧ Hd (w.heap[g]? = some (.cells #[.slice A N c, .int .i64 er] T (0, 0))) := by
  obtain ⟨A, N, c, hb, hs, hne⟩ := h.row
  exact ⟨A, N, c, ⟨hs.len.symm⟩, ⟨hs⟩, by simp [World.cell?, hb], by simp [World.cell?, hb], by simp [World.frozen?, hb], by simp [World.frozen?, hb], ⟨hne⟩, ⟨(Array.getElem?_eq_some_iff.1 hb).1⟩, ⟨hb⟩⟩
theorem RdT.keep {T : Nat} {w w' : World} {g : Nat} {bs : List UInt8} {er : Int} {S : Nat → Prop} (h : RdT T w g bs er) (hk : Keep S w w') (hS : ∀ k, S k → w.heap.size ≤ k) : RdT T w' g bs er := by
  obtain ⟨A, N, c, hb, hs, hne⟩ := h.row
  have hg := (Array.getElem?_eq_some_iff.1 hb).1
  have hk' : Ext w w' := hk.weaken (fun k hk hs => by have := hS k hs; omega)
  exact ⟨A, N, c, hk'.blk hb id, hs.ext hk', hne⟩
theorem RdT.keepB {T : Nat} {w w' : World} {g : Nat} {bs : List UInt8} {er : Int} {S : Nat → Prop} (h : RdT T w g bs er) (hk : Keep S w w') (hS : ∀ k, S k → g < k) : RdT T w' g bs er := by
  obtain ⟨A, N, c, hb, hs, hne⟩ := h.row
  exact ⟨A, N, c, hk.blk hb (fun h => by have := hS _ h; omega), hs.keep hk (fun h0 ad h1 h2 => by have := hS _ h2; have := hne h0 ad h1; omega), hne⟩
/-- The reader's error is set. -/
theorem RdT.fail {T : Nat} {w : World} {g : Nat} {bs : List UInt8} {er : Int} (h : RdT T w g bs er) (e : Int) : RdT T (w.setCell ⟨g, 1, none⟩ (.int .i64 e)) g bs e ∧ Keep (fun k => k = g) w (w.setCell ⟨g, 1, none⟩ (.int .i64 e)) := by
  obtain ⟨A, N, c, hb, hs, hne⟩ := h.row
  have hk : Keep (fun k => k = g) w (w.setCell ⟨g, 1, none⟩ (.int .i64 e)) := (Keep.refl (fun k => k = g) w).setCell (p := ⟨g, _, none⟩) (fun _ => rfl) _
  refine ⟨⟨A, N, c, ?_, hs.keep hk (fun h0 ad h1 h2 => Nat.ne_of_lt (hne h0 ad h1) h2), hne⟩, hk⟩
  rw [heap_setCell_same w g 1 _ _ _ hb]; rfl
/-- The reader goes on. -/
theorem RdT.move {T : Nat} {w : World} {g N c N' c' : Nat} {A A' : Option Addr} {bs' : List UInt8} {er : Int} (hb : w.heap[g]? = some (.cells #[.slice A N c, .int .i64 er] T (0, 0))) (hs : SlAt enc8 w A' N' c' bs') (hne : bs' ≠ [] → ∀ ad, A' = some ad → ad.block < g) :
    RdT T (w.setCell ⟨g, 0, none⟩ (.slice A' N' c')) g bs' er ∧ Keep (fun k => k = g) w (w.setCell ⟨g, 0, none⟩ (.slice A' N' c')) := by
  have hk : Keep (fun k => k = g) w (w.setCell ⟨g, 0, none⟩ (.slice A' N' c')) := (Keep.refl (fun k => k = g) w).setCell (p := ⟨g, _, none⟩) (fun _ => rfl) _
  refine ⟨⟨A', N', c', ?_, hs.keep hk (fun h0 ad h1 h2 => Nat.ne_of_lt (hne h0 ad h1) h2), hne⟩, hk⟩
  rw [heap_setCell_same w g 0 _ _ _ hb]; rfl

abbrev Rd := RdT 173

def RetRd (w : World) (bs : List UInt8) (en : Ending) (w' : World) : Prop := ∃ g, en = .returned (.pointer (some ⟨g, 0, none⟩)) ∧ w.heap.size ≤ g ∧ Rd w' g bs 0 ∧ Ext w w'
theorem rof_any (A : Option Addr) (n c : Nat) (xs : List UInt8) (w : World) (hs : SlAt enc8 w A n c xs) (hn : n ≤ 140737488355328) :
    Calls Try.prog 90 #[.slice A n c] w (RetRd w xs) := by
  refine hide_post fun R hR => ?_
  have HS := Hd.mk hs; clear hs
  have HN := Hd.mk hn; clear hn
  go_enter Try.func90, Try.ntmps90
  go_wp2_with fail
  refine (clone8_any A n c xs w HS.out HN.out).mono ?_
  rintro e w1 ⟨A1, c1, rfl, ho1, hk1⟩
  have ho1 := Hd.mk ho1
  have hk1 := Hd.mk hk1
  go_wp2
  refine hR.out _ _ ⟨w1.heap.size, rfl, hk1.out.size, ⟨A1, xs.length, c1, heap_alloc_new w1 _, ho1.out.sl.ext ((ext_refl w1).alloc _), fun h0 ad h1 => ?_⟩, hk1.out.alloc _⟩
  by_cases hc : c1 = 0
  · have h3 := ho1.out.cap.1
    exact absurd (List.eq_nil_of_length_eq_zero (by omega)) h0
  · have := (ho1.out.ge (k := ad.block) ⟨hc, ad, h1, rfl⟩).2
    omega

theorem rfail_any (g : Nat) (bs : List UInt8) (er e0 : Int) (w : World) (h : Rd w g bs er) :
    Calls Try.prog 131 #[.pointer (some ⟨g, 0, none⟩), .int .i64 e0] w fun e w' => e = .returned (.int .i64 e0) ∧ Rd w' g bs e0 ∧ Keep (fun k => k = g) w w' := by
  refine hide_post fun R hR => ?_
  obtain ⟨A, N, c, hN, hs, hc0, hc1, hf0, hf1, hne, hg, hb⟩ := h.get
  have H := Hd.mk (h.fail e0); clear h
  go_enter Try.func131, Try.ntmps131
  go_wp2
  exact hR.out _ _ ⟨rfl, H.out.1, H.out.2⟩

/-- The number that some bytes are, the least first. -/
def leN : List UInt8 → Nat
  | [] => 0
  | x :: xs => x.toNat + 256 * leN xs
/-- What is left behind a number's reading; the number; what is wrong. -/
def rNum (bs : List UInt8) (er : Int) (k : Nat) : Int × Int × List UInt8 × Int :=
  if er ≠ 0 then (0, er, bs, er) else if bs.length < k then (0, 10, bs, 10) else if 9223372036854775808 ≤ leN (bs.take k) then (0, 1, bs, 1) else ((leN (bs.take k) : Int), 0, bs.drop k, 0)
def rText (bs : List UInt8) (er : Int) (most : Nat) : List UInt8 × Int × List UInt8 × Int :=
  if er ≠ 0 then ([], er, bs, er) else if bs.length < 2 ∨ bs.length - 2 < leN (bs.take 2) then ([], 10, bs, 10) else if most < leN (bs.take 2) then ([], 2, bs, 2) else ((bs.drop 2).take (leN (bs.take 2)), 0, bs.drop (2 + leN (bs.take 2)), 0)
def rEnd (bs : List UInt8) (er : Int) : Int := if er ≠ 0 then er else if bs = [] then 0 else 4

/-- The hypothesis of a reader's walk: 'b[m:]' and 'b[:m]' of a slice that is read. -/
theorem cut_from {P : Program} {α : Type} {enc : α → List Value} {t e : TypeId} {sz bytes : Nat} (E : Elt P t e enc sz bytes) {w : World} {A : Option Addr} {n c : Nat} {xs : List α} (h : SlAt enc w A n c xs) (m : Nat) (hm : m ≤ n) :
    ∃ A1 N1 c1, Hd (N1 = n - m) ∧ Hd (SlAt enc w A1 N1 c1 (xs.drop m)) ∧ Hd (∀ a1, A1 = some a1 → ∃ a0, A = some a0 ∧ a1.block = a0.block) ∧ (∀ w', (Instr.slice t (.slice A n c) (some (.int .i64 (m : Int))) none none).run P w' = .ok (.slice A1 N1 c1) w') := by
  obtain ⟨i, z, hi, _, hs, _, _⟩ := E.info
  refine ⟨_, _, _, ⟨rfl⟩, ⟨h.drop E.len m hm⟩, ⟨fun a1 h1 => ?_⟩, fun w' => ?_⟩
  · split at h1
    · exact ⟨a1, h1, rfl⟩
    · cases A with
      | none => cases h1
      | some a0 => simp at h1; subst h1; exact ⟨a0, rfl, by unfold Addr.add; split <;> rfl⟩
  · have ht : P.underlying t = some (.slice (P.elem t)) := by simp [E.ht, Program.elem]
    have he : P.elem t = e := by simp [E.ht, Program.elem]
    rw [run_slice_l (P := P) w' t A n c ht .i64 m (by omega) (by omega), he]
    have hsz : (sizeOf e).run P w' = .ok sz w' := by simp [sizeOf, typeInfo, hi, hs]
    rw [hsz]; simp [Result.andThen, sliced]
theorem cut_to {P : Program} {α : Type} {enc : α → List Value} {t e : TypeId} {sz bytes : Nat} (E : Elt P t e enc sz bytes) {w : World} {A : Option Addr} {n c : Nat} {xs : List α} (h : SlAt enc w A n c xs) (m : Nat) (hm : m ≤ n) :
    Hd (SlAt enc w A m c (xs.take m)) ∧ (∀ w', (Instr.slice t (.slice A n c) none (some (.int .i64 (m : Int))) none).run P w' = .ok (.slice A m c) w') := by
  obtain ⟨i, z, hi, _, hs, _, _⟩ := E.info
  refine ⟨⟨h.take ⟨sz, E.len⟩ m hm⟩, fun w' => ?_⟩
  have ht : P.underlying t = some (.slice (P.elem t)) := by simp [E.ht, Program.elem]
  have he : P.elem t = e := by simp [E.ht, Program.elem]
  rw [run_slice_h (P := P) w' t A n c ht .i64 m (by omega) (by have := h.cap; omega), he]
  have hsz : (sizeOf e).run P w' = .ok sz w' := by simp [sizeOf, typeInfo, hi, hs]
  rw [hsz]
  simp only [Result.andThen, sliced, Int.toNat_natCast, Nat.zero_mul, Nat.sub_zero]
  split
  · rfl
  · cases A with
    | none => rfl
    | some a => simp [Addr.add]
end Go.Proofs.Ythpfkdaijiaalaa
