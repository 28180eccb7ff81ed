/- The universal program: strings.Builder's contracts at this program; strings.NewReplacer; what is kept beside them. -/
import Derived.Test.YtadmbphefpfbmaaGreatDoorUvZ
import Derived.Test.YtadmbphefpfbmaaGreatDoorJn
import Derived.Shelf.Strings.BuilderK
namespace Go.Proofs.YtadmbphefpfbmaaGreatDoor
open Go.RowKit Go.Shelf
set_option linter.unusedVariables false
set_option linter.unusedSimpArgs false
attribute [local go_sem ↓] Go.wp_at_zero Go.wp_at_succ
/-- A builder in block b that holds the bytes l. -/
def IsB (w : World) (B b : Nat) (l : List Nat) : Prop := Lib.IsBuilderF 54 5 B b (bcells l) w
theorem bcells_app (l m : List Nat) : bcells (l ++ m) = bcells l ++ bcells m := by simp [bcells]
theorem bWrite_any (w : World) (B b : Nat) (l : List Nat) (s : ByteArray) (h : IsB w B b l) (hl : l.length + s.size ≤ 1000000) (hB : B ≤ w.heap.size) :
    Calls Tryz.prog 36 #[ptr b, .string s] w fun e w' => e = .returned (.tuple #[.int .i64 (s.size : Int), .nilIface]) ∧ IsB w' B b (l ++ nm s) ∧ Below B w w' ∧ Lib.OthersKept 5 (some b) w w' := by
  refine (Any.Builder_WriteString_k (P := Tryz.prog) (ρ := joinRen) { joinLaid with } joinExtra B b (bcells l) s w h (by simp [bcells]; omega) hB).mono ?_
  rintro e w' ⟨h1, h2, h3, h4⟩
  refine ⟨h1, .inr ?_, h3, h4⟩
  rw [strCells_nm, ← bcells_app] at h2
  exact h2
theorem byteCells_nm (t : ByteArray) : Lib.byteCells t.data.toList = bcells (nm t) := by simp [Lib.byteCells, bcells, nm]
theorem bString_any (w : World) (B b : Nat) (t : ByteArray) (h : IsB w B b (nm t)) (hB : B ≤ w.heap.size) :
    Calls Tryz.prog 38 #[ptr b] w fun e w' => e = .returned (.string t) ∧ Below B w w' := by
  refine (Any.Builder_String_any_k (P := Tryz.prog) (ρ := joinRen) { joinLaid with } joinExtra B b t.data.toList w (by rw [byteCells_nm]; exact h) hB).mono ?_
  rintro e w' ⟨h1, h2, h3, h4⟩
  exact ⟨h1, h3⟩
theorem isB_new (w : World) (B : Nat) (hB : B ≤ w.heap.size) : IsB (w.alloc (.cells #[.pointer none, .slice none 0 0] 54)) B w.heap.size [] :=
  .inl ⟨hB, .slice none 0 0, box_new _ _ _, World.ownsRowF_of (World.ownsRow_nil _ _ _ _), by simp [Value.ownBlock]⟩
/-- All blocks but those of D stand. -/
def Kpt (D : Nat → Prop) (w w' : World) : Prop := ∀ k o, w.heap[k]? = some o → ¬ D k → w'.heap[k]? = some o
theorem kpt_bel {w w' : World} (h : Below w.heap.size w w') : Kpt (fun _ => False) w w' := fun k o hk _ => (h.block k (Array.getElem?_eq_some_iff.1 hk).1).trans hk
theorem kpt_ch {w w' : World} {F : Nat → Prop} (h : Ch F w w') : Kpt F w w' := fun k o hk hf => (h.block k (Array.getElem?_eq_some_iff.1 hk).1 hf).trans hk
theorem kpt_ok {w w' : World} {b : Nat} (h : Lib.OthersKept 5 (some b) w w') : Kpt (fun k => k = b ∨ ∃ c fz, w.heap[k]? = some (.cells c 5 fz)) w w' :=
  fun k o hk hd => h k o hk (fun e => hd (.inl (by injection e))) (fun c fz e => hd (.inr ⟨c, fz, by rw [hk, e]⟩))
section
variable {w w' : World} {D : Nat → Prop}
theorem blk_kpt {g T : Nat} {cs : Array Value} (h : w.heap[g]? = some (.cells cs T (0, 0))) (hk : Kpt D w w') (hd : ¬ D g) : w'.heap[g]? = some (.cells cs T (0, 0)) := hk g _ h hd
theorem own_kpt {base e s n : Nat} {v : Value} {vs : List Value} (h : w.ownsRow base e s v n vs) (hk : Kpt D w w') (hd : ∀ k cs, w.heap[k]? = some (.cells cs e (0, 0)) → ¬ D k) : w'.ownsRow base e s v n vs := by
  refine ⟨h.1, ?_⟩
  rcases h.2 with h' | ⟨g, cap, cur, rfl, hb, hg, r⟩
  · exact .inl h'
  · exact .inr ⟨g, cap, cur, rfl, hb, hk g _ hg (hd g _ hg), r⟩
theorem trS_kpt {B : Nat} {v8 v10 v11 : ByteArray} {r : Nat} (h : TrS B v8 v10 v11 w r 3) (hc : Kpt D w w') (hd : ∀ k cs T, w.heap[k]? = some (.cells cs T (0, 0)) → (T = 239 ∨ T = 234 ∨ T = 237) → ¬ D k) : TrS B v8 v10 v11 w' r 3 := by
  obtain ⟨T, N, M, U, K, L, V, J, hB, hg, hT, hn, hu, hm, hk, hv, hl, hj⟩ := h
  exact ⟨T, N, M, U, K, L, V, J, hB, blk_kpt hg hc (hd _ _ _ hg (.inl rfl)), blk_kpt hT hc (hd _ _ _ hT (.inr (.inl rfl))), blk_kpt hn hc (hd _ _ _ hn (.inr (.inr rfl))), blk_kpt hu hc (hd _ _ _ hu (.inr (.inl rfl))), blk_kpt hm hc (hd _ _ _ hm (.inr (.inr rfl))), blk_kpt hk hc (hd _ _ _ hk (.inr (.inr rfl))), blk_kpt hv hc (hd _ _ _ hv (.inr (.inl rfl))), blk_kpt hl hc (hd _ _ _ hl (.inr (.inr rfl))), blk_kpt hj hc (hd _ _ _ hj (.inr (.inr rfl)))⟩
/-- A replacer, used or not. -/
def RpA (v8 v10 v11 : ByteArray) (w : World) (p : Nat) : Prop := (∃ A c, w.heap[p]? = some (.cells #[.int .u32 0, .int .i32 0, .int .u32 0, .nilIface, .slice A 6 c] 102 (0, 0)) ∧ w.ownsRow 0 9 1 (.slice A 6 c) 6 (usV v8 v10 v11)) ∨ RpB v8 v10 v11 w p
theorem rpA_kpt {v8 v10 v11 : ByteArray} {p : Nat} (h : RpA v8 v10 v11 w p) (hc : Kpt D w w') (hd : ∀ k cs T, w.heap[k]? = some (.cells cs T (0, 0)) → (T = 102 ∨ T = 9 ∨ T = 239 ∨ T = 234 ∨ T = 237) → ¬ D k) : RpA v8 v10 v11 w' p := by
  rcases h with ⟨A, c, h1, h2⟩ | ⟨B, r, h1, h2, h3⟩
  · exact .inl ⟨A, c, blk_kpt h1 hc (hd _ _ _ h1 (.inl rfl)), own_kpt h2 hc (fun k cs hk => hd k cs _ hk (.inr (.inl rfl)))⟩
  · exact .inr ⟨B, r, h1, blk_kpt h2 hc (hd _ _ _ h2 (.inl rfl)), trS_kpt h3 hc (fun k cs T hk hT => hd k cs T hk (.inr (.inr hT)))⟩
theorem rpA_blk {v8 v10 v11 : ByteArray} {p : Nat} (h : RpA v8 v10 v11 w p) : ∃ cs, w.heap[p]? = some (.cells cs 102 (0, 0)) := by
  rcases h with ⟨A, c, h1, h2⟩ | ⟨B, r, h1, h2, h3⟩
  · exact ⟨_, h1⟩
  · exact ⟨_, h2⟩
theorem blk_two {g h : Nat} {cs ds : Array Value} {T U : Nat} {f1 f2 : Nat × Nat} (h1 : w.heap[g]? = some (.cells cs T f1)) (h2 : w.heap[h]? = some (.cells ds U f2)) (hT : T ≠ U) : g ≠ h := by
  intro e; subst e; rw [h1] at h2; injection h2 with h2; injection h2 with h3 h4; exact hT h4
theorem isB_blk {B b : Nat} {l : List Nat} (h : IsB w B b l) : ∃ cs, w.heap[b]? = some (.cells cs 54 (0, 0)) := by
  rcases h with ⟨_, v, h1, _⟩ | ⟨_, v, h1, _⟩ <;> exact ⟨_, h1⟩
theorem isB_kpt {B b : Nat} {l : List Nat} (h : IsB w B b l) (hc : Kpt D w w') (hd : ∀ k cs T fz, w.heap[k]? = some (.cells cs T fz) → (T = 54 ∨ T = 5) → ¬ D k) : IsB w' B b l := by
  have key : ∀ pv, Lib.BuilderAtF 54 5 B b pv (bcells l) w → Lib.BuilderAtF 54 5 B b pv (bcells l) w' := by
    rintro pv ⟨h1, v, h2, h3, h4⟩
    refine ⟨h1, v, hc b _ h2 (hd _ _ _ _ h2 (.inl rfl)), ?_, h4⟩
    refine ⟨h3.1, ?_⟩
    rcases h3.2 with h' | ⟨g, cap, cur, fz, rfl, hb, hg, r⟩
    · exact .inl h'
    · exact .inr ⟨g, cap, cur, fz, rfl, hb, hc g _ hg (hd _ _ _ _ hg (.inr rfl)), r⟩
  rcases h with h | h
  · exact .inl (key _ h)
  · exact .inr (key _ h)
end
end Go.Proofs.YtadmbphefpfbmaaGreatDoor
