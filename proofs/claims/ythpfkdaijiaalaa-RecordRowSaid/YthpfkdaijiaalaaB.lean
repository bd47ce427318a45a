/- The wire's writer and reader: what each call leaves. -/
import Derived.Test.YthpfkdaijiaalaaProg
import Derived.Test.YthpfkdaijiaalaaA
import Derived.Lib.AppendStr
namespace Go.Proofs.Ythpfkdaijiaalaa
open Go.RowKit

theorem hide_post {P : Program} {f : FuncId} {args : Array Value} {w : World} {R : Ending → World → Prop}
    (h : ∀ R' : Ending → World → Prop, Hd (∀ e w', R e w' → R' e w') → Calls P f args w R') : Calls P f args w R := h R ⟨fun _ _ h => h⟩

def sizedB (n : Int) : Bool := n == 1 || n == 2 || n == 4 || n == 8
theorem sized_any (n : Int) (w : World) : Calls Try.prog 123 #[.int .i64 n] w fun e w' => e = .returned (.bool (sizedB n)) ∧ w = w' := by
  refine hide_post fun R hR => ?_
  go_enter Try.func123, Try.ntmps123
  go_wp2
  all_goals exact hR.out _ _ ⟨by simp [sizedB, *], rfl⟩

def keyCk (s : ByteArray) : Int := if 1 ≤ s.size ∧ s.size ≤ 16 then 0 else 50
theorem size_list (s : ByteArray) : s.size = s.toList.length := by rw [ByteArray.toList_eq]; rfl
theorem keyCheck_any (s : ByteArray) (w : World) : Calls Try.prog 78 #[.string s] w fun e w' => e = .returned (.int .i64 (keyCk s)) ∧ w = w' := by
  refine hide_post fun R hR => ?_
  have hz := Hd.mk (size_list s)
  have HS : Hd (s.size = s.toList.length) := hz
  by_cases h0 : s.toList = []
  · have h0' : s.toList.isEmpty = true := by rw [h0]; rfl
    go_enter Try.func78, Try.ntmps78
    go_wp2
    all_goals exact hR.out _ _ ⟨by simp [keyCk, HS.out, h0], rfl⟩
  · have h0' : s.toList.isEmpty = false := by simpa using h0
    have h1 : 1 ≤ s.size := by rw [HS.out]; exact Nat.pos_of_ne_zero (by simpa using h0)
    by_cases h2 : (16 : Int) < (s.size : Int)
    · have : ¬ s.size ≤ 16 := by omega
      go_enter Try.func78, Try.ntmps78
      go_wp2
      all_goals exact hR.out _ _ ⟨by simp [keyCk, this], rfl⟩
    · have h3 : s.size ≤ 16 := by omega
      go_enter Try.func78, Try.ntmps78
      go_wp2
      all_goals exact hR.out _ _ ⟨by simp [keyCk, h1, h3], rfl⟩

def leB (n : Nat) : Nat → List UInt8
  | 0 => []
  | k + 1 => UInt8.ofNat n :: leB (n / 256) k
theorem leB_snoc (n k : Nat) : leB n (k + 1) = leB n k ++ [UInt8.ofNat (n / 256 ^ k)] := by
  induction k generalizing n with
  | zero => simp [leB]
  | succ k ih =>
    rw [leB, ih, leB]
    simp [Nat.div_div_eq_div_mul, Nat.pow_succ, Nat.mul_comm]
theorem leB_len (n k : Nat) : (leB n k).length = k := by
  induction k generalizing n with
  | zero => rfl
  | succ k ih => simp [leB, ih]

theorem Try.E8 : Elt Try.prog 31 5 enc8 1 1 :=
  ⟨Try.underlying31, by
    have h : (Try.prog.info? 5).map (fun i => (i.zero, i.size, i.bytes)) = some (some (.int .u8 0), 1, 1) := by kernel_rfl
    obtain ⟨i, hi, h1, h2, h3⟩ := info_parts h; exact ⟨i, _, hi, h1, h2, h3, rfl⟩,
   by omega, fun _ => rfl, fun x u hu => by simp [enc8] at hu; subst hu; rfl⟩

/-- A writer: block g; its bytes are a row of its own, at B or beyond. -/
structure Wr (B : Nat) (w : World) (g : Nat) (bs : List UInt8) : Prop where
  ge : B ≤ g
  row : ∃ A c, w.heap[g]? = some (.cells #[.slice A bs.length c] 169 (0, 0)) ∧ Own enc8 1 5 B w A bs.length c bs

theorem Wr.get {B : Nat} {w : World} {g : Nat} {bs : List UInt8} (h : Wr B w g bs) : ∃ A c N, Hd (N = bs.length) ∧ Hd (Own enc8 1 5 B w A N c bs) ∧ w.cell? ⟨g, 0, none⟩ = some (.slice A N c) ∧ w.frozen? ⟨g, 0, none⟩ = false ∧ Hd (¬ foot A c g) ∧ Hd (B ≤ g ∧ g < w.heap.size) ∧ Hd (w.heap[g]? = some (.cells #[.slice A N c] 169 (0, 0))) := by
  obtain ⟨A, c, hb, ho⟩ := h.row
  refine ⟨A, c, _, ⟨rfl⟩, ⟨ho⟩, by simp [World.cell?, hb], by simp [World.frozen?, hb], ⟨fun e => ?_⟩, ⟨h.ge, (Array.getElem?_eq_some_iff.1 hb).1⟩, ⟨hb⟩⟩
  obtain ⟨cur, h2⟩ := ho.type_ e
  rw [hb] at h2; simp at h2
/-- The header of a block of one cell, stored anew. -/
theorem head_set {w w' : World} {g T : Nat} {A : Option Addr} {c : Nat} {v v' : Value} (hb : w.heap[g]? = some (.cells #[v] T (0, 0))) (hk : Keep (foot A c) w w') (hf : ¬ foot A c g) :
    w'.cell? ⟨g, 0, none⟩ = some v ∧ w'.frozen? ⟨g, 0, none⟩ = false ∧ (w'.setCell ⟨g, 0, none⟩ v').heap[g]? = some (.cells #[v'] T (0, 0)) := by
  have hb' := hk.blk hb hf
  refine ⟨by simp [World.cell?, hb'], by simp [World.frozen?, hb'], ?_⟩
  rw [heap_setCell_same w' g 0 _ _ _ hb']; rfl
theorem Wr.after {B : Nat} {w w' : World} {g N N' : Nat} {A A' : Option Addr} {c c' : Nat} {bs bs' : List UInt8} (hg : B ≤ g ∧ g < w.heap.size) (hb : w.heap[g]? = some (.cells #[.slice A N c] 169 (0, 0))) (ho : Own enc8 1 5 B w A N c bs) (hf : ¬ foot A c g)
    (ho' : Own enc8 1 5 B w' A' N' c' bs') (hk : Keep (foot A c) w w') : Wr B (w'.setCell ⟨g, 0, none⟩ (.slice A' N' c')) g bs' ∧ Keep (fun k => B ≤ k) w (w'.setCell ⟨g, 0, none⟩ (.slice A' N' c')) := by
  have h1 := head_set (v' := .slice A' N' c') hb hk hf
  refine ⟨⟨hg.1, A', c', ?_, ?_⟩, (hk.weaken (fun k _ h => (ho.ge h).1)).setCell (fun _ => hg.1) _⟩
  · rw [ho'.len]; exact h1.2.2
  · rw [ho'.len]
    refine ho'.keep ((Keep.refl (fun k => k = g) _).setCell (fun _ => rfl) _) (fun k hk e => ?_)
    subst e
    obtain ⟨cur, h2⟩ := ho'.type_ hk
    rw [‹Keep _ w w'›.blk hb hf] at h2; simp at h2
theorem u8_of (m : Nat) : enc8 (UInt8.ofNat m) = [.int .u8 ((m : Int) % 256)] := by simp [enc8, u8v]

theorem wnew_any (w : World) : Calls Try.prog 81 #[] w fun e w' => e = .returned (.pointer (some ⟨w.heap.size, 0, none⟩)) ∧ Wr w.heap.size w' w.heap.size [] ∧ Ext w w' := by
  refine hide_post fun R hR => ?_
  go_enter Try.func81, Try.ntmps81
  go_wp2
  refine hR.out _ _ ⟨rfl, ⟨Nat.le_refl _, none, 0, ?_, Own.nil_ _ _ _ _ _⟩, (ext_refl w).alloc _⟩
  exact heap_alloc_new w _

set_option maxRecDepth 100000 in
theorem wnum_ok (B g : Nat) (bs : List UInt8) (n : Int) (k : Nat) (hk : sizedB k = true) (hn0 : 0 ≤ n) (hn : n ≤ 9223372036854775807) (hf : k < 8 → n < 2 ^ (8 * k)) (w : World) (hw : Wr B w g bs) (hl : bs.length + 8 ≤ 1000000000000) :
    Calls Try.prog 82 #[.pointer (some ⟨g, 0, none⟩), .int .i64 n, .int .i64 k] w fun e w' => e = .returned (.int .i64 0) ∧ Wr B w' g (bs ++ leB n.toNat k) ∧ Keep (fun k => B ≤ k) w w' := by
  refine hide_post fun R hR => ?_
  obtain ⟨n, rfl⟩ := Int.eq_ofNat_of_zero_le hn0
  simp only [Int.toNat_natCast] at hR
  have HW := Hd.mk hw; clear hw
  have HN := Hd.mk hn; clear hn
  have HK : Hd (k ≤ 8) := ⟨by have := hk; simp [sizedB] at this; omega⟩
  have hn0 : decide ((n : Int) < 0) = false := by simp
  have hk0 : (0 : Int) ≤ (k : Int) := by omega
  have hk8 : (k : Int) ≤ 8 := by have := HK.out; omega
  have hs : (k : Int) < 8 → ((n : Int) / 2 ^ (8 * k) != 0) = false := by
    intro h; have h8 := hf (by omega)
    rw [Int.ediv_eq_zero_of_lt (by omega) h8]; rfl
  clear hf
  have HL := Hd.mk hl; clear hl
  have h8 : decide ((k : Int) < 8) = true ∧ ((n : Int) / 2 ^ (8 * k) != 0) = false ∨ decide ((k : Int) < 8) = false := by
    by_cases h : (k : Int) < 8
    · exact .inl ⟨by simpa using h, hs h⟩
    · exact .inr (by simp; omega)
  clear hs
  rcases h8 with ⟨h8, h8'⟩ | h8
  all_goals
    go_enter Try.func82, Try.ntmps82
    go_wp2_with (go_at_call 123; refine (sized_any _ _).mono ?_; rintro e w' ⟨rfl, rfl⟩)
    go_loopg [1, 28] k (fun k' v1 v28 wr => ∃ i : Nat, Hd (i ≤ k ∧ k' = k - i) ∧ v28 = .int .i64 i ∧ v1 = .int .i64 ((n / 256 ^ i : Nat) : Int) ∧ Hd (Wr B wr g (bs ++ leB n i)) ∧ Hd (Keep (fun k => B ≤ k) w wr))
    case atStart => exact ⟨0, ⟨by omega⟩, rfl, by simp, ⟨by simpa [leB] using HW.out⟩, ⟨Keep.refl _ _⟩⟩
    case round =>
      obtain ⟨i, hi, rfl, rfl, hW, hB⟩ := hrel
      obtain ⟨A, c, N, hN, ho, hc, hfz, hft, hg, hb⟩ := hW.out.get
      have hik : (i : Int) ≤ 8 := by have := hi.out; omega
      by_cases hlt : (i : Int) < k
      · go_wp2_with (at_builtin; refine wp_push Try.E8 rfl _ _ rfl rfl ho.out (UInt8.ofNat (n / 256 ^ i)) _ ?c1 rfl ?c2 ?c3 ?c4 ?_)
        case c1 => rw [u8_of]; simp
        case c2 => have := hN.out; have := HL.out; simp [leB_len] at *; omega
        case c3 => have := hN.out; have := HL.out; simp [leB_len] at *; omega
        case c4 => have := hg.out; omega
        intro A' c' w' ho' hk' _
        obtain ⟨hc1, hf1, hb1⟩ := head_set (v' := .slice A' (N + 1) c') hb.out hk' hft.out
        have hfin := Hd.mk (Wr.after hg.out hb.out ho.out hft.out ho' hk')
        clear hb1 ho' hk'
        go_wp2
        go_roundg (k - (i + 1))
        case measure => have := hi.out; omega
        case rel =>
          refine ⟨i + 1, ⟨by have := hi.out; omega⟩, by go_num, ?_, ⟨?_⟩, ⟨?_⟩⟩
          · have e1 : ((n / 256 ^ (i + 1) : Nat) : Int) = (n : Int) / 256 ^ i / 256 := by rw [Nat.pow_succ, ← Nat.div_div_eq_div_mul]; simp
            rw [e1]
          · simpa [leB_snoc] using hfin.out.1
          · exact hB.out.trans hfin.out.2 (fun k _ hk => hk)
      · have hik2 : Hd (i = k) := ⟨by have := hi.out; omega⟩
        go_wp2
        exact hR.out _ _ ⟨rfl, by rw [← hik2.out]; exact hW.out, hB.out⟩


theorem strs8 (s : ByteArray) : Go.Lib.strCells s = flat enc8 s.toList := by
  rw [ByteArray.toList_eq]
  simp only [Go.Lib.strCells, flat]
  induction s.data.toList with
  | nil => rfl
  | cons x xs ih => simp [ih, enc8, u8v]
/-- 'append(v, s...)' of a text's bytes. -/
theorem run_appStr {P : Program} {t u e : TypeId} (E : Elt P t e enc8 1 1) (hu : P.underlying u = some .string) (hz : ∃ i, P.info? e = some i ∧ i.zero = some (.int .u8 0)) (ty : TypeId) (w : World)
    {B : Nat} {A : Option Addr} {n c : Nat} {xs : List UInt8} (ho : Own enc8 1 e B w A n c xs) (y : ByteArray) (hb : n + y.size ≤ 140737488355328) (hB : B ≤ w.heap.size) :
    ∃ A' c' w', (Builtin.append_ #[t, u] ty #[.slice A n c, .string y]).run P w = .ok (.slice A' (n + y.size) c') w' ∧ Own enc8 1 e B w' A' (n + y.size) c' (xs ++ y.toList) ∧ Keep (foot A c) w w' := by
  obtain ⟨i, z, hi, hzz, hs1, hby, hzs⟩ := E.info
  obtain ⟨i', hi', hz'⟩ := hz
  rw [hi] at hi'; cases hi'
  rw [hzz] at hz'; cases hz'
  have hmx : n + y.size ≤ maxLen := by simp only [maxLen]; omega
  have fin : ∀ v w', w'.ownsRow B e 1 v (n + y.size) (flat enc8 xs ++ Go.Lib.strCells y) → ∃ A' c', v = .slice A' (n + y.size) c' ∧ Own enc8 1 e B w' A' (n + y.size) c' (xs ++ y.toList) := by
    intro v w' hr
    have hv : ∃ A' c', v = .slice A' (n + y.size) c' := by
      rcases hr.2 with ⟨rfl, h0⟩ | ⟨g, cap, cur, rfl, _⟩
      · exact ⟨none, 0, by rw [h0]⟩
      · exact ⟨_, _, rfl⟩
    obtain ⟨A', c', rfl⟩ := hv
    rw [strs8, ← flat_append] at hr
    exact ⟨A', c', rfl, Own.of_row hr (by simp [ho.len, size_list])⟩
  have key : ∀ (hrow : w.ownsRow B e 1 (.slice A n c) n (flat enc8 xs)), (∀ k, (Value.slice A n c).ownBlock = some k → foot A c k) → ∃ A' c' w', (Builtin.append_ #[t, u] ty #[.slice A n c, .string y]).run P w = .ok (.slice A' (n + y.size) c') w' ∧ Own enc8 1 e B w' A' (n + y.size) c' (xs ++ y.toList) ∧ Keep (foot A c) w w' := by
    intro hrow hfoot
    obtain ⟨v', w', hr, ho', hg, _⟩ := Go.Lib.run_append_own_string (P := P) w B t u ty e i E.ht hu hi hzz hs1 hby _ n _ hrow y hmx hb hB
    obtain ⟨A', c', rfl, hO⟩ := fin v' w' ho'
    exact ⟨A', c', w', hr, hO, (Keep.refl _ _).grown hg (fun k _ hk => hfoot k hk)⟩
  rcases ho.row with ⟨hn0, hc0⟩ | ⟨g, cur, rfl, hbg, hg, hnc, hcm, hcs, htake⟩
  · subst hn0; subst hc0
    have hx : xs = [] := List.eq_nil_of_length_eq_zero ho.len
    subst hx
    cases A with
    | none => exact key (World.ownsRow_nil w B e 1) (fun k hk => by simp [Value.ownBlock] at hk)
    | some b =>
      by_cases hy : y.size = 0
      · refine ⟨some b, 0, w, ?_, ?_, Keep.refl _ _⟩
        · simp [Builtin.append_, run_underlying E.ht, run_underlying hu, sizeOf, typeInfo, hi, Builtin.lenOf, Builtin.firstCells, hy, storeCells]
        · have : y.toList = [] := List.eq_nil_of_length_eq_zero (by rw [← size_list]; exact hy)
          rw [this, hy]; exact ⟨rfl, .inl ⟨rfl, rfl⟩⟩
      · have hr := Go.Lib.run_append_grow_string (P := P) w t u ty e i _ E.ht hu hi hzz b 0 0 [] (by simp) (by simp) y (by omega) (by omega) (growslice_fits (by omega) (by rw [hby]; omega))
        have hge := grownCap_ge w (0 + y.size) 0 e
        have hcm := grownCap_le_maxLen w (0 + y.size) 0 e (by omega)
        refine ⟨_, _, _, hr, ⟨by simp [size_list], .inr ⟨w.heap.size, _, rfl, hB, heap_alloc_new w.drew _, hge, hcm, ?_, ?_⟩⟩, ((Keep.refl _ w).drew).alloc _⟩
        · simp only [Array.size_append, List.size_toArray, size_zeroCells, hzs, Go.Lib.strCells_length, List.length_nil, Nat.zero_add, Nat.mul_one]
          simp only [Nat.zero_add] at hge
          omega
        · simp only [List.nil_append, Array.toList_append, Nat.zero_add, Nat.mul_one]
          rw [← strs8, ← Go.Lib.strCells_length y]
          simp
  · have hrow : w.ownsRow B e 1 (.slice (some ⟨g, 0, none⟩) n c) n (flat enc8 xs) := ⟨by rw [flat_len E.len, ho.len], .inr ⟨g, c, cur, rfl, hbg, hg, hnc, hcm, hcs, htake⟩⟩
    by_cases hc : c = 0
    · have hn0 : n = 0 := by omega
      subst hc; subst hn0
      have hx : xs = [] := List.eq_nil_of_length_eq_zero ho.len
      subst hx
      by_cases hy : y.size = 0
      · refine ⟨some ⟨g, 0, none⟩, 0, w, ?_, ?_, Keep.refl _ _⟩
        · simp [Builtin.append_, run_underlying E.ht, run_underlying hu, sizeOf, typeInfo, hi, Builtin.lenOf, Builtin.firstCells, hy, storeCells]
        · have : y.toList = [] := List.eq_nil_of_length_eq_zero (by rw [← size_list]; exact hy)
          rw [this, hy]; exact ⟨rfl, .inl ⟨rfl, rfl⟩⟩
      · have hr := Go.Lib.run_append_grow_string (P := P) w t u ty e i _ E.ht hu hi hzz ⟨g, 0, none⟩ 0 0 [] (by simp) (by simp) y (by omega) (by omega) (growslice_fits (by omega) (by rw [hby]; omega))
        have hge := grownCap_ge w (0 + y.size) 0 e
        have hcm := grownCap_le_maxLen w (0 + y.size) 0 e (by omega)
        refine ⟨_, _, _, hr, ⟨by simp [size_list], .inr ⟨w.heap.size, _, rfl, hB, heap_alloc_new w.drew _, hge, hcm, ?_, ?_⟩⟩, ((Keep.refl _ w).drew).alloc _⟩
        · simp only [Array.size_append, List.size_toArray, size_zeroCells, hzs, Go.Lib.strCells_length, List.length_nil, Nat.zero_add, Nat.mul_one]
          simp only [Nat.zero_add] at hge
          omega
        · simp only [List.nil_append, Array.toList_append, Nat.zero_add, Nat.mul_one]
          rw [← strs8, ← Go.Lib.strCells_length y]
          simp
    · exact key hrow (fun k hk => ⟨hc, _, rfl, by simpa [Value.ownBlock] using hk⟩)
theorem wp_appStr {P : Program} {t u e : TypeId} (E : Elt P t e enc8 1 1) (hu : P.underlying u = some .string) (hz : ∃ i, P.info? e = some i ∧ i.zero = some (.int .u8 0)) {w : World} {ops : Array Oper} {rest : List Oper} {o : Oper} {a : Act} {Q : Exit → Act → World → Prop}
    (hgd : o.guard = none) (s x : Operand) (ho : o.op = .call { callee := .builtin .append, args := #[s, x], argTypes := #[t, u] })
    {B : Nat} {A : Option Addr} {n c : Nat} {xs : List UInt8} (hs : a.eval s = .slice A n c) (hown : Own enc8 1 e B w A n c xs) {y : ByteArray} (hx : a.eval x = .string y)
    (hb : n + y.size ≤ 140737488355328) (hB : B ≤ w.heap.size)
    (h : ∀ A' c' w', Own enc8 1 e B w' A' (n + y.size) c' (xs ++ y.toList) → Keep (foot A c) w w' → wpList P ops Q rest (a.put o.dst (.slice A' (n + y.size) c')) w') :
    wpList P ops Q (o :: rest) a w := by
  refine wpList_plain hgd fun K hK => ?_
  obtain ⟨A', c', w', hr, h2, h3⟩ := run_appStr E hu hz o.type w hown y hb hB
  unfold Oper.wp execOp
  simp only [ho, resolve, invoke, builtin, Sem.run_bind, Sem.run_pure, Result.andThen_ok, List.map_toArray, List.map_cons, List.map_nil, hs, hx, hr]
  exact hK _ _ (h A' c' w' h2 h3)

end Go.Proofs.Ythpfkdaijiaalaa
