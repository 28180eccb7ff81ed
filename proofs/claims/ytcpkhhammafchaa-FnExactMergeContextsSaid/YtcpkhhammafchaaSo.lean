/- slices.SortFunc by slices.Compare at rows of rows of numbers. -/
import Derived.Test.YtcpkhhammafchaaSl
import Derived.Test.YtcpkhhammafchaaGF
import Derived.Shelf.SlSortCmp.Whole1
namespace Go.Proofs.Ytcpkhhammafchaa
open Go.RowKit Go.Shelf Go.Lib Go.Sort
set_option linter.unusedVariables false
set_option linter.unusedSimpArgs false
/-- A row of numbers that reads in a world, in another block than g. -/
abbrev RV (W : World) (g : Nat) := { p : (Option Addr × Nat × Nat) × List Int // Rd W p.1.1 p.1.2.1 (ints p.2) ∧ p.1.2.1 ≤ 1000000000 ∧ ∀ b off, p.1.1 = some ⟨b, off, none⟩ → b ≠ g }
section
variable {W w' : World} {g : Nat}
instance : Inhabited (RV W g) := ⟨⟨((none, 0, 0), []), ⟨⟨rfl, fun h => by simp at h⟩, by simp, fun b off h => by cases h⟩⟩⟩
def encR (x : RV W g) : Value := .slice x.1.1.1 x.1.1.2.1 x.1.1.2.2
def cmpR (x y : RV W g) : Int := cmpL x.1.2 y.1.2
theorem swoR : SWO (ltOf (cmpR (W := W) (g := g))) where
  irrefl x := by simp [ltOf, cmpR, cmpL_self0]
  trans x y z h1 h2 := by
    exact decide_eq_true (cmpL_tri (of_decide_eq_true h1) (of_decide_eq_true h2))
  ntrans x y z h1 h2 := by
    replace h1 : ¬ cmpL x.1.2 y.1.2 < 0 := of_decide_eq_false h1
    replace h2 : ¬ cmpL y.1.2 z.1.2 < 0 := of_decide_eq_false h2
    refine decide_eq_false (fun h3 => ?_)
    change cmpL x.1.2 z.1.2 < 0 at h3
    have h4 := cmpL_swap x.1.2 y.1.2
    rcases Int.lt_trichotomy (cmpL y.1.2 x.1.2) 0 with h | h | h
    · exact h2 (cmpL_tri h h3)
    · rw [cmpL_zero.1 h] at h2; exact h2 h3
    · omega
theorem rd_ch {F : Nat → Prop} {A : Option Addr} {n : Nat} {vs : List Value} (h : Rd W A n vs) (hc : Ch F W w') (hd : ∀ b off, A = some ⟨b, off, none⟩ → ¬ F b) : Rd w' A n vs := by
  refine ⟨h.1, fun hn => ?_⟩
  obtain ⟨b, off, e, hlt, hc2⟩ := h.2 hn
  exact ⟨b, off, e, Nat.lt_of_lt_of_le hlt hc.size, fun j u hu => (World.cell?_of_block (a := ⟨b, off + j, none⟩) (hc.block b hlt (hd b off e))).trans (hc2 j u hu)⟩
theorem sortW_ch (enc : RV W g → Value) (n : Nat) (d : Array (RV W g)) (os : Array Obj) : Ch (· = g) W (sortWorld enc W g 0 n d os) := by
  refine ⟨rfl, rfl, rfl, ?_, fun k hk hne => ?_⟩
  · simp [sortWorld, grow, putRow, mapBlock, Sort.ahead]
  · unfold sortWorld
    rw [heap_grow_old _ _ (by simpa using hk)]
    simp [putRow, mapBlock, Sort.ahead, Array.getElem?_modify]
    intro e
    exact absurd e.symm hne
theorem sortW_heap {cur : Array Value} {T : Nat} {fr : Nat × Nat} (enc : RV W g → Value) (n : Nat) (d : Array (RV W g)) (os : Array Obj) (hb : W.heap[g]? = some (.cells cur T fr)) : (sortWorld enc W g 0 n d os).heap[g]? = some (.cells (putCells enc 0 d cur) T fr) := by
  have hg : g < W.heap.size := (Array.getElem?_eq_some_iff.1 hb).1
  unfold sortWorld
  rw [heap_grow_old _ _ (by simpa using hg)]
  simp [putRow, mapBlock, Sort.ahead, Array.getElem?_modify, hb, onCells]
set_option maxHeartbeats 1000000 in
theorem cmpReadsR (size : Nat) : CmpReads Try.prog 134 #[] (encR (W := W) (g := g)) cmpR g 0 size W := fun m os dk hs x y => by
  have h := sortW_ch (encR (W := W) (g := g)) m dk os
  refine (compare_any (sortWorld encR W g 0 m dk os) x.1.1.1 y.1.1.1 x.1.1.2.1 x.1.1.2.2 y.1.1.2.1 y.1.1.2.2 x.1.2 y.1.2 (rd_ch x.2.1 h x.2.2.2) (rd_ch y.2.1 h y.2.2.2) x.2.2.1 y.2.2.1).mono ?_
  rintro e w' ⟨rfl, rfl⟩
  exact ⟨rfl, 0, rfl⟩
theorem ex_rows : ∀ {us : List Value} {xss : List (List Int)}, us.length = xss.length → (∀ (i : Nat) (u : Value) (xs : List Int), us[i]? = some u → xss[i]? = some xs → ∃ x : RV W g, encR x = u ∧ x.1.2 = xs) → ∃ ds : List (RV W g), ds.map encR = us ∧ ds.map (fun x => x.1.2) = xss
  | [], [], _, _ => ⟨[], rfl, rfl⟩
  | u :: us, xs :: xss, hl, h => by
    obtain ⟨x, h1, h2⟩ := h 0 u xs rfl rfl
    obtain ⟨ds, h3, h4⟩ := ex_rows (us := us) (xss := xss) (by simpa using hl) (fun i u xs a b => h (i + 1) u xs (by simpa using a) (by simpa using b))
    exact ⟨x :: ds, by simp [h1, h3], by simp [h2, h4]⟩
end
/-- What sorting leaves. -/
def SortP (W : World) (g n c : Nat) (us : List Value) (xss : List (List Int)) (e : Ending) (w' : World) : Prop :=
  e = .returned (.tuple #[]) ∧ ∃ us' xss', OwnX w' (some ⟨g, 0, none⟩) n c us' xss' ∧ (∀ k, FU us' k → FU us k) ∧ xss'.Perm xss ∧ xss'.Pairwise (fun a b => cmpL a b ≤ 0) ∧ Ch (· = g) W w'
set_option maxHeartbeats 2000000 in
theorem sortFunc_any (W : World) (g n c : Nat) (us : List Value) (xss : List (List Int)) (hx : OwnX W (some ⟨g, 0, none⟩) n c us xss) (hn : n ≤ 1000000) :
    Calls Try.prog 133 #[.slice (some ⟨g, 0, none⟩) n c, .func (.func 134) #[] #[]] W (SortP W g n c us xss) := by
  obtain ⟨ho, hi⟩ := hx
  have hul : us.length = n := by simpa using ho.1
  rcases ho.2 with ⟨hv, _⟩ | ⟨g', cap, cur, hv, hbs, hg, hnc, hcm, hcs, htk⟩
  · cases hv
  injection hv with e1 _ e3
  injection e1 with e1
  injection e1 with e1
  subst e1 e3
  have hex : ∀ (i : Nat) (u : Value) (xs : List Int), us[i]? = some u → xss[i]? = some xs → ∃ x : RV W g, encR x = u ∧ x.1.2 = xs := by
    intro i u xs hu hxs
    obtain ⟨A1, n1, c1, rfl, hn1, ho1, _⟩ := hi.2.1 i u xs hu hxs
    refine ⟨⟨((A1, n1, c1), xs), own_rd ho1, hn1, ?_⟩, rfl, rfl⟩
    intro b off hb hbg
    simp only at hb
    subst hb hbg
    obtain ⟨cs, hc⟩ := own_fo ho1 (k := b) rfl
    exact blk_ne hc hg (by decide) rfl
  obtain ⟨ds, hds, hdx⟩ := ex_rows hi.1 hex
  have hdl : ds.length = n := by have := congrArg List.length hds; simpa [hul] using this
  have hH : Holds (encR (W := W) (g := g)) W g 0 ds.toArray := by
    intro j hj
    have hj' : j < ds.length := by simpa using hj
    refine ⟨?_, by simp [World.frozen?, hg]⟩
    have h1 : (cur.toList.take n)[j]? = us[j]? := by simpa using congrArg (·[j]?) htk
    rw [List.getElem?_take_of_lt (by omega), ← hds, List.getElem?_map, List.getElem?_eq_getElem hj'] at h1
    rw [Nat.zero_add]
    have h2 : ds.toArray[j]! = ds[j] := by rw [getElem!_pos _ j (by simpa using hj')]; simp
    rw [h2, cell_of_row W g j cur _ _ hg, ← Array.getElem?_toList, h1]
    rfl
  have eg : ∀ args w, (callFunc 134 args).run Try.prog w = .ok (.enter 134 args) w := enters_of Try.func134 (by kernel_rfl) rfl
  have hcon := Any.slices_SortFunc sortLaid (encR (W := W) (g := g)) (fun _ => rfl) cmpR swoR 134 #[] g 0 c ds.toArray W eg (cmpReadsR ds.toArray.size).lays hH (blk_lt hg) (by simp; omega)
  rw [List.size_toArray, hdl] at hcon
  change Calls Try.prog 133 _ _ _ at hcon
  refine hcon.mono ?_
  rintro e w' ⟨rfl, d', m, os, hp, hs, rfl⟩
  have hds' : d'.size = n := by have h := hp.1; simpa [hdl] using h
  have hperm : d'.toList.Perm ds := by
    have h := hp.2.2
    have e1 : d'.extract 0 n = d' := by rw [← hds']; exact Array.extract_size
    have e2 : ds.toArray.extract 0 n = ds.toArray := by have h := Array.extract_size (xs := ds.toArray); rw [List.size_toArray, hdl] at h; exact h
    rw [e1, e2] at h
    exact h
  have hch := sortW_ch (encR (W := W) (g := g)) m d' os
  refine ⟨rfl, d'.toList.map encR, d'.toList.map (fun x => x.1.2), ⟨⟨by simp [hds'], .inr ⟨g, c, _, rfl, Nat.zero_le _, sortW_heap encR m d' os hg, hnc, hcm, by simpa [putCells] using hcs, ?_⟩⟩, ?_⟩, fun k hk => ?_, ?_, ?_, hch⟩
  · apply List.ext_getElem?
    intro j
    by_cases hj : j < n
    · rw [Nat.mul_one, List.getElem?_take_of_lt hj, List.getElem?_map, Array.getElem?_toList, Array.getElem?_toList]
      have hjc : j < cur.size := by omega
      have hjd : j < d'.size := by omega
      simp [putCells, hjc, hjd]
    · rw [List.getElem?_eq_none (by simp; omega), List.getElem?_eq_none (by simp; omega)]
  · have h1 : InnerP W (FU us) ((ds.map (fun x => (encR x, x.1.2))).map Prod.fst) ((ds.map (fun x => (encR x, x.1.2))).map Prod.snd) := by
      simp only [List.map_map]
      have e1 : ds.map (Prod.fst ∘ fun x => (encR x, x.1.2)) = us := hds
      have e2 : ds.map (Prod.snd ∘ fun x => (encR x, x.1.2)) = xss := hdx
      rw [e1, e2]; exact hi
    have h2 := h1.perm (hperm.symm.map (fun x => (encR x, x.1.2)))
    simp only [List.map_map] at h2
    have h3 : InnerP W (FU us) (d'.toList.map encR) (d'.toList.map (fun x => x.1.2)) := h2
    refine (inner_fu h3).ch hch (fun k hk e => ?_)
    subst e
    have hk2 : FU us k := by
      rw [← hds]
      exact (fu_perm (hperm.map encR) k).1 hk
    exact fu_types ho hi k hk2 rfl
  · rw [← hds]
    exact (fu_perm (hperm.map encR) k).1 hk
  · rw [← hdx]; exact hperm.map _
  · rw [List.pairwise_map, List.pairwise_iff_getElem]
    intro i j hi' hj' hij
    have h := hs i j (Nat.zero_le _) hij (by simp at hj'; omega)
    have hi2 : i < d'.size := by simpa using hi'
    have hj2 : j < d'.size := by simpa using hj'
    rw [getElem!_pos _ j hj2, getElem!_pos _ i hi2] at h
    replace h : ¬ cmpL d'[j].1.2 d'[i].1.2 < 0 := of_decide_eq_false h
    have h4 := cmpL_swap d'[i].1.2 d'[j].1.2
    simp only [Array.getElem_toList]
    omega
end Go.Proofs.Ytcpkhhammafchaa
