/- Proofs by contexts: the parts of one, where its numbers fit (reference). -/
import Derived.Test.YtjgajjcgapifoaaPrfV
namespace Go.Proofs.Ytjgajjcgapifoaa
open Go.RowKit
set_option linter.unusedVariables false
set_option linter.unusedSimpArgs false
theorem St.start {w w2 : World} {z : Int} {A4 : Option Addr} {n4 c4 : Nat} {sts : List Int} {ws : List (List Int)} {a b : Nat} (hb : Below w.heap.size w w2) (ho : w2.ownsRow w.heap.size 2 1 (.slice A4 n4 c4) n4 (ints sts)) :
    St w (w2.alloc (.cells #[.int .i64 z, .slice none 0 0, .slice none 0 0, .slice none 0 0, .slice A4 n4 c4] 104)) w2.heap.size z A4 n4 c4 sts ws a b 0 none 0 0 [] none 0 0 [] none 0 0 [] := by
  obtain ⟨e1, e2, e3⟩ := k_start ws a b
  refine ⟨box_new _ _ _, by rw [e1]; exact OwnX.nil _, by rw [e2]; exact OwnX.nil _, by rw [e3]; exact OwnX.nil _, ownN_below ho (below_new _ _) (Nat.le_refl _), ?_, ?_, ?_, ?_, ?_, ?_, ?_, hb.trans ((below_new _ _).mono hb.size), hb.size⟩
  · intro q hq; rcases hq with hq | hq | hq <;> exact (fx_nil q hq).elim
  all_goals exact fun q h1 h2 => fx_nil q h1
theorem getI_drop {ns : List Int} {j : Nat} {x : Int} (h : (ns.drop 3)[j]? = some x) : natAt ns j = decide (0 ≤ x) := by rw [natAt, getI_of h]
set_option maxHeartbeats 16000000 in
set_option maxRecDepth 100000 in
theorem l29In_go (w : World) (g : Nat) (k : Int) (A1 : Option Addr) (n1 c1 : Nat) (A2 : Option Addr) (n2 c2 : Nat) (hp : BP w g k A1 n1 c1 A2 n2 c2) (ns : List Int) (hr1 : Rd w A1 n1 (ints ns)) (hc1 : n1 ≤ c1) (ws : List (List Int)) (hr2 : RdL w A2 n2 ws) (hok : okP k ns ws = true) (hg1 : g1 k ns = true) (hs2 : s2 ns n2 = true) :
    Calls Try.prog 70 #[.pointer (some ⟨g, 0, none⟩)] w (InPost w (pN ns) (lefts ns ws) (rights ns ws) (ctxs ns ws) (ns.drop 3) (csOk k ns ws)) := by
  obtain ⟨rfl, h3, hz1, hz4⟩ := g1_bd hg1
  obtain ⟨_, hn1, hn2, hbd, _⟩ := okP_bd hok
  have hi : inB (pN ns) 1 4 = true := by simp only [g1, Bool.and_eq_true] at hg1; exact hg1.2
  have hl : ns.length = n1 := by simpa using hr1.1
  have hl2 : ws.length = n2 := hr2.len
  rw [hl] at h3 hn1
  rw [hl2] at hn2
  obtain ⟨a, b2, hna, hnb, hab, habn⟩ := s2_bd hs2
  rw [hl] at habn
  have HEND : Hid (∀ j, allTo (natAt ns) j = true → n1 - 3 ≤ j → csOk 8 ns ws = ((ctxs ns ws).all (lenW (2 * pN ns + 1)) && sortS (pN ns) (lefts ns ws) (rights ns ws) (ctxs ns ws) (ns.drop 3))) := Lib.hid (fun j h1 h2 => cs_end hok hg1 (by rw [hl2]; exact hs2) (by rw [hl]; exact allTo_le h1 h2))
  have HNEG : Hid (∀ j, j < n1 - 3 → natAt ns j = false → csOk 8 ns ws = false) := Lib.hid (fun j h1 h2 => cs_nat hok hg1 (by rw [hl2]; exact hs2) (by rw [hl]; exact allTo_out h1 h2))
  have HPARTS : Hid (lsK ws a b2 n2 = lefts ns ws ∧ rsK ws a b2 n2 = rights ns ws ∧ csK ws a b2 n2 = ctxs ns ws) := Lib.hid (by
    have h := k_end (ws := ws) (a := a) (b := b2) (by omega)
    rw [hl2] at h
    simp only [lefts, rights, ctxs, hna, hnb, Int.toNat_natCast]
    exact h)
  obtain ⟨q0, q1, q2⟩ := hp.cells
  have HP := Lib.hid hp
  have HI := Lib.hid hi
  obtain ⟨b, off, hA, hbs, r0⟩ := hr1.at_ (ints_get (num_at (ns := ns) (i := 0) (by omega)))
  obtain ⟨b', off', hA', _, r1⟩ := hr1.at_ (ints_get (num_at (ns := ns) (i := 1) (by omega)))
  obtain ⟨b'', off'', hA'', _, r2⟩ := hr1.at_ (ints_get (num_at (ns := ns) (i := 2) (by omega)))
  subst hA
  injection hA' with hA'
  injection hA' with e1 e2
  subst e1 e2
  injection hA'' with hA''
  injection hA'' with e1 e2
  subst e1 e2
  have ep : ns.getD 0 0 = pN ns := rfl
  have ea : ns.getD 1 0 = pA ns := rfl
  have eb : ns.getD 2 0 = pB ns := rfl
  rw [ep] at r0
  rw [ea, hna] at r1
  rw [eb, hnb] at r2
  simp only [Nat.add_zero] at r0
  have hcs := s2_cases ns n1 n2 hl
  rw [hs2, hna, hnb] at hcs
  have i0 : (0 : Int) < (n1 : Int) := by omega
  have i1 : (1 : Int) < (n1 : Int) := by omega
  have i2 : (2 : Int) < (n1 : Int) := by omega
  have j0 : 0 < n1 := by omega
  have j1 : 1 < n1 := by omega
  have j2 : 2 < n1 := by omega
  have i3 : ¬ (n1 : Int) < 3 := by omega
  have hct := fun (w : World) => run_cutF Try.underlying25 Try.szI w (some ⟨b, off, none⟩) n1 c1 3 3 .i64 rfl (by omega)
  have HR3 : Hid (Rd w (cutA (some ⟨b, off, none⟩) 3 c1 1) (n1 - 3) (ints (ns.drop 3))) := Lib.hid (by have h := hr1.cut 3 c1 (by omega) hc1; rwa [← List.map_drop] at h)
  have HL3 : Hid ((ns.drop 3).length = n1 - 3) := Lib.hid (by simp [hl])
  have HR2 := Lib.hid hr2
  have HL2 := Lib.hid hl2
  have HGD : Hid (∀ j x, (ns.drop 3)[j]? = some x → natAt ns j = decide (0 ≤ x)) := Lib.hid (fun j x h => getI_drop h)
  have HN3 : Hid (n1 - 3 = n2 - (a + b2)) := Lib.hid (by omega)
  have hn3' : n1 - 3 ≤ 300 := by omega
  clear hr1 hl hok hg1 hbd hl2 hi ep ea eb h3 hp hs2 hr2 hna hnb habn
  generalize cutA (some ⟨b, off, none⟩) 3 c1 1 = A3 at *
  generalize hn3e : n1 - 3 = n3 at *
  generalize c1 - 3 = c3 at *
  generalize pN ns = z at *
  generalize ns.drop 3 = sts at *
  clear hn3e
  have hw1 : IntKind.i64.wrap ((n2 : Int) - (a : Int)) = (n2 : Int) - a := IntWalk.i64_in _ (by omega)
  have hw2 : IntKind.i64.wrap (3 + (n2 : Int)) = 3 + (n2 : Int) := IntWalk.i64_in _ (by omega)
  have hw3 : IntKind.i64.wrap (3 + (n2 : Int) - a) = 3 + (n2 : Int) - a := IntWalk.i64_in _ (by omega)
  have hw4 : IntKind.i64.wrap (3 + (n2 : Int) - a - b2) = 3 + (n2 : Int) - a - b2 := IntWalk.i64_in _ (by omega)
  have hw5 : IntKind.i64.wrap ((a : Int) + (b2 : Int)) = (a : Int) + (b2 : Int) := IntWalk.i64_in _ (by omega)
  have hw6 : IntKind.i64.wrap (2 * z) = 2 * z := IntWalk.i64_in _ (by omega)
  have hw7 : IntKind.i64.wrap (2 * z + 1) = 2 * z + 1 := IntWalk.i64_in _ (by omega)
  rcases hcs with ⟨_, h5⟩ | ⟨_, _, h5⟩ | ⟨_, _, _, h5⟩ | ⟨h1, h2, h4, _⟩
  · cases h5
  · cases h5
  · cases h5
  have H1 := Lib.hid h1; have H2 := Lib.hid h2
  clear h1 h2
  go_enter Try.func70, Try.ntmps70
  go_wp2_with fail
  refine (l29Size_any _ _).mono ?_
  rw [HI.out]
  rintro e w3 ⟨rfl, rfl⟩
  go_wp2_with fail
  refine (l00In_any _ _ _ _).mono ?_
  rw [H1.out]
  rintro e w3 ⟨rfl, rfl⟩
  go_wp2_with fail
  refine (l00In_any _ _ _ _).mono ?_
  rw [H2.out]
  rintro e w3 ⟨rfl, rfl⟩
  clear r1 r2 hw1 hw2 hw3 hw4
  go_upto_region 8 with fail
  go_cut [7] (fun s7 wx => ∃ (g' : Nat) (A4 : Option Addr) (n4 c4 : Nat), s7 = .pointer (some ⟨g', 0, none⟩) ∧ n4 = n3 ∧ St w wx g' z A4 n4 c4 sts ws a b2 0 none 0 0 [] none 0 0 [] none 0 0 [])
  case first =>
    (first
      | (go_region_law (first
          | (go_simp
             go_at_call 106
             refine (l00Own_any _ A3 n3 c3 sts (by exact HR3.out.drew) (by omega)).mono ?_
             rintro e w2 ⟨A4, n4, c4, rfl, ho4, hb4⟩
             have HO4 := Lib.hid ho4
             have HB4 := Lib.hid (und1 hb4)
             clear ho4 hb4
             replace q1 := (HB4.out.cell (p := ⟨g, 1, none⟩) (blk_lt HP.out)).trans q1
             replace r0 := (HB4.out.cell (p := ⟨b, off, none⟩) hbs).trans r0)))
      | fail)
    all_goals
      go_wp2_with fail
      go_meet
      exact ⟨_, _, _, _, rfl, by have h1 := HO4.out.1; have h2 := HL3.out; simp at h1; omega, St.start HB4.out HO4.out⟩
  case rest =>
    obtain ⟨g', A4, n4, c4, rfl, hn4, hst⟩ := hcut
    subst hn4
    have HST := Lib.hid hst
    clear hst q0 q1 q2 r0 hct
    go_wp2_with fail
    go_loopw [8] (fun q wr => ∃ (k : Nat) (A5 : Option Addr) (n5 c5 : Nat) (u5 : List Value) (A6 : Option Addr) (n6 c6 : Nat) (u6 : List Value) (A7 : Option Addr) (n7 c7 : Nat) (u7 : List Value), k ≤ n2 ∧ q = .int .i64 k ∧ Hid (St w wr g' z A4 n4 c4 sts ws a b2 k A5 n5 c5 u5 A6 n6 c6 u6 A7 n7 c7 u7)) (fun q _ => n2 - (intOf q).toNat)
    case atStart => exact ⟨0, _, _, _, _, _, _, _, _, _, _, _, _, by omega, rfl, HST⟩
    case round =>
      clear HST
      obtain ⟨k, A5, n5, c5, u5, A6, n6, c6, u6, A7, n7, c7, u7, hk, rfl, HST⟩ := hrel
      have hb : Below w.heap.size w wr := HST.out.hb
      obtain ⟨q0, q1, q2⟩ := (HP.out.bel hb).cells
      by_cases hlt : k < n2
      · have hlt' : (k : Int) < (n2 : Int) := by omega
        have hk0 : (0 : Int) ≤ (k : Int) := by omega
        obtain ⟨xs, hx⟩ := get_some (xs := ws) (k := k) (by rw [HL2.out]; exact hlt)
        obtain ⟨d, of, D, dn, dc, hA, hds, hc, hdn, hdr⟩ := HR2.out.at_ hx
        subst hA
        replace hc := (hb.cell (p := ⟨d, of + k, none⟩) hds).trans hc
        have hdr' := hdr.below hb (Nat.le_refl _)
        have HX := Lib.hid hx
        clear hx hdr
        go_wp2_with fail
        refine (l00Own_any _ _ _ _ xs hdr' hdn).mono ?_
        rintro e w2 ⟨B, nb, cb, rfl, ho, hb2⟩
        have hnb : nb ≤ 1000000000 := by have h1 := ho.1; have h2 := hdr'.1; simp at h1 h2; omega
        have HO := Lib.hid ho; have HB2 := Lib.hid hb2
        have hbs2 : BS w2 g' z A5 n5 c5 A6 n6 c6 A7 n7 c7 A4 n4 c4 := HST.out.bs.bel hb2
        have HBS2 := Lib.hid hbs2
        obtain ⟨y0, y1, y2, y3, y4⟩ := hbs2.cells
        have hn5 : n5 ≤ 300 := by have h := HST.out.o1.ownp.len; have h2 := HL2.out; unfold lsK at h; simp at h; omega
        have hn6 : n6 ≤ 300 := by have h := HST.out.o2.ownp.len; have h2 := HL2.out; unfold rsK at h; simp at h; omega
        have hn7 : n7 ≤ 300 := by have h := HST.out.o3.ownp.len; have h2 := HL2.out; unfold csK at h; simp at h; omega
        have hlg : g' < w2.heap.size := blk_lt hbs2
        clear ho hb2 hbs2 q0 q1 q2 hc hdr' hb
        by_cases hka : k < a
        · have hka' : (k : Int) < (a : Int) := by omega
          have HOW := Lib.hid (ownN_below HST.out.o1.1 HB2.out (Nat.le_refl _))
          go_wp2_with (at_builtin; go_must (refine wpList_app1O Try.eltS rfl _ _ rfl w2 0 A5 n5 c5 u5 (by rfl) HOW.out (.slice B nb cb) rfl (by rfl) (by omega) ?_); rintro A8 c8 w4 ho4 hc4 hf4; have hbs4 : BS w4 g' z A5 n5 c5 A6 n6 c6 A7 n7 c7 A4 n4 c4 := blk_ch HBS2.out hc4 (fun hq => fx_set HBS2.out (HST.out.o1.below HB2.out) (.inl hq)); have f1 := blk_free hbs4 1; have z1 := hbs4.cells.2.1; have l4 := blk_lt hbs4; have HO4 := Lib.hid ho4; have HC4 := Lib.hid hc4; have HF4 := Lib.hid hf4; clear ho4 hc4 hf4 hbs4)
          go_roundw
          case rel => exact ⟨k + 1, _, _, _, _, _, _, _, _, _, _, _, _, by omega, by go_num, Lib.hid (HST.out.step1 HX.out hka HB2.out HO.out hnb HO4.out HC4.out HF4.out)⟩
          case measure => simp [intOf]; omega
        · have hka' : ¬ (k : Int) < (a : Int) := by omega
          by_cases hkb : k < a + b2
          · have hkb' : (k : Int) < (a : Int) + (b2 : Int) := by omega
            have HOW := Lib.hid (ownN_below HST.out.o2.1 HB2.out (Nat.le_refl _))
            go_wp2_with (at_builtin; go_must (refine wpList_app1O Try.eltS rfl _ _ rfl w2 0 A6 n6 c6 u6 (by rfl) HOW.out (.slice B nb cb) rfl (by rfl) (by omega) ?_); rintro A8 c8 w4 ho4 hc4 hf4; have hbs4 : BS w4 g' z A5 n5 c5 A6 n6 c6 A7 n7 c7 A4 n4 c4 := blk_ch HBS2.out hc4 (fun hq => fx_set HBS2.out (HST.out.o2.below HB2.out) (.inl hq)); have f1 := blk_free hbs4 2; have z1 := hbs4.cells.2.2.1; have l4 := blk_lt hbs4; have HO4 := Lib.hid ho4; have HC4 := Lib.hid hc4; have HF4 := Lib.hid hf4; clear ho4 hc4 hf4 hbs4)
            go_roundw
            case rel => exact ⟨k + 1, _, _, _, _, _, _, _, _, _, _, _, _, by omega, by go_num, Lib.hid (HST.out.step2 HX.out (by omega) hkb HB2.out HO.out hnb HO4.out HC4.out HF4.out)⟩
            case measure => simp [intOf]; omega
          · have hkb' : ¬ (k : Int) < (a : Int) + (b2 : Int) := by omega
            have HOW := Lib.hid (ownN_below HST.out.o3.1 HB2.out (Nat.le_refl _))
            go_wp2_with (at_builtin; go_must (refine wpList_app1O Try.eltS rfl _ _ rfl w2 0 A7 n7 c7 u7 (by rfl) HOW.out (.slice B nb cb) rfl (by rfl) (by omega) ?_); rintro A8 c8 w4 ho4 hc4 hf4; have hbs4 : BS w4 g' z A5 n5 c5 A6 n6 c6 A7 n7 c7 A4 n4 c4 := blk_ch HBS2.out hc4 (fun hq => fx_set HBS2.out (HST.out.o3.below HB2.out) (.inl hq)); have f1 := blk_free hbs4 3; have z1 := hbs4.cells.2.2.2.1; have l4 := blk_lt hbs4; have HO4 := Lib.hid ho4; have HC4 := Lib.hid hc4; have HF4 := Lib.hid hf4; clear ho4 hc4 hf4 hbs4)
            go_roundw
            case rel => exact ⟨k + 1, _, _, _, _, _, _, _, _, _, _, _, _, by omega, by go_num, Lib.hid (HST.out.step3 HX.out (by omega) HB2.out HO.out hnb HO4.out HC4.out HF4.out)⟩
            case measure => simp [intOf]; omega
      · obtain rfl : k = n2 := by omega
        obtain ⟨w6, rfl⟩ : ∃ w6 : World, w6 = wr := ⟨_, rfl⟩
        obtain ⟨y0, y1, y2, y3, y4⟩ := HST.out.bs.cells
        clear hb q0 q1 q2
        go_wp2_with fail
        go_loopw [10] (fun q wr => ∃ j : Nat, j ≤ n4 ∧ q = .int .i64 j ∧ Hid (allTo (natAt ns) j = true) ∧ wr = w6) (fun q _ => n4 - (intOf q).toNat)
        case atStart => exact ⟨0, by omega, rfl, Lib.hid (allTo_zero _), rfl⟩
        case round =>
          obtain ⟨j, hj, rfl, hall, rfl⟩ := hrel
          by_cases hjl : j < n4
          · have hjl' : (j : Int) < (n4 : Int) := by omega
            obtain ⟨x, hx⟩ := get_some (xs := sts) (k := j) (by rw [HL3.out]; exact hjl)
            obtain ⟨gg, hA, _, hlg, hc, _⟩ := own_get HST.out.o4 (ints_get hx)
            subst hA
            have HN := Lib.hid (HGD.out j x hx)
            clear hx
            by_cases hneg : x < 0
            · have HC := Lib.hid (HNEG.out j hjl (by rw [HN.out]; exact decide_eq_false (by omega)))
              go_wp2_with fail
              go_ret2
              exact ⟨.pointer none, by rw [HC.out]; rfl, HST.out.hb, by rw [HC.out]; simp⟩
            · have HNX := Lib.hid (allTo_next hall.out (by rw [HN.out]; exact decide_eq_true (by omega)))
              go_wp2_with fail
              go_roundw
              case rel => exact ⟨j + 1, by omega, by go_num, HNX, by trivial⟩
              case measure => simp [intOf]; omega
          · have HC := Lib.hid (HEND.out j hall.out (by omega))
            obtain ⟨hP1, hP2, hP3⟩ := HPARTS.out
            have ho1 := HST.out.o1
            have ho2 := HST.out.o2
            have ho3 := HST.out.o3
            rw [hP1] at ho1
            rw [hP2] at ho2
            rw [hP3] at ho3
            have hb5 := HST.out.bs
            have hn5 : n5 ≤ 300 := by have h := HST.out.o1.ownp.len; have h2 := HL2.out; unfold lsK at h; simp at h; omega
            have hn6 : n6 ≤ 300 := by have h := HST.out.o2.ownp.len; have h2 := HL2.out; unfold rsK at h; simp at h; omega
            have hn7 : n7 ≤ 300 := by have h := HST.out.o3.ownp.len; have h2 := HL2.out; unfold csK at h; simp at h; omega
            have h47 : n4 = n7 := by have h := HST.out.o3.ownp.len; have h2 := HL2.out; have h3 := HN3.out; unfold csK at h; simp at h; omega
            have hle : ∀ q, Calls Try.prog 73 #[.slice A7 n7 c7, .int .i64 (2 * z + 1)] (wr.drewN q) (fun e w' => e = .returned (.bool ((ctxs ns ws).all (lenW (2 * z + 1)))) ∧ w' = wr.drewN q) := fun q => (l29Lengths_any _ _ _ _ (ctxs ns ws) (by have h := ho3.ownp.rdl; exact h) (by omega) _).mono fun e w' h => ⟨h.1, h.2.symm⟩
            have hso : ∀ q, Calls Try.prog 75 #[.pointer (some ⟨g', 0, none⟩)] (wr.drewN q) (DrP (wr.drewN q) (.bool (sortS z (lefts ns ws) (rights ns ws) (ctxs ns ws) sts))) := fun q => l29Sorted_any (wr.drewN q) g' z A5 n5 c5 A6 n6 c6 A7 n7 c7 A4 n4 c4 (by have h := hb5; exact h) (lefts ns ws) (rights ns ws) (ctxs ns ws) sts (by have h := ho1.ownp.rdl; exact h) (by omega) (by have h := ho2.ownp.rdl; exact h) (by omega) (by have h := ho3.ownp.rdl; exact h) (by omega) (by have h := own_rd HST.out.o4; exact h) h47
            have HLE := Lib.hid (fun q => Calls.quiet_of_same (hle q))
            have HSO := Lib.hid (fun q => Calls.quiet_of (hso q))
            have HO1 := Lib.hid ho1; have HO2 := Lib.hid ho2; have HO3 := Lib.hid ho3
            clear hle hso hP1 hP2 hP3 ho1 ho2 ho3 hb5 h47
            generalize (ctxs ns ws).all (lenW (2 * z + 1)) = u1' at *
            generalize sortS z (lefts ns ws) (rights ns ws) (ctxs ns ws) sts = u2' at *
            cases u1' with
            | false =>
              go_wp2_with fail
              go_quiet (first
                | (go_at_call 73; with_reducible exact HLE.out _)
                | (go_at_call 75; with_reducible exact HSO.out _))
              go_wp2_with fail
              go_ret2
              exact ⟨.pointer (some ⟨g', 0, none⟩), by rw [HC.out]; rfl, below_drewN HST.out.hb, by rw [HC.out]; simp⟩
            | true =>
              go_wp2_with fail
              go_quiet (first
                | (go_at_call 73; with_reducible exact HLE.out _)
                | (go_at_call 75; with_reducible exact HSO.out _))
              go_wp2_with fail
              go_ret2
              have hd : ∀ q, Below wr.heap.size wr (wr.drewN q) := fun q => below_drewN (Below.refl _ _)
              exact ⟨.pointer (some ⟨g', 0, none⟩), by rw [HC.out]; rfl, below_drewN HST.out.hb, fun _ => ⟨g', A5, n5, c5, u5, A6, n6, c6, u6, A7, n7, c7, u7, A4, n4, c4, rfl, HST.out.bs.bel (hd _), HO1.out.below (hd _), HO2.out.below (hd _), HO3.out.below (hd _), ownN_below HST.out.o4 (hd _) (Nat.le_refl _), HST.out.lo, HST.out.d12, HST.out.d13, HST.out.d23, HST.out.d14, HST.out.d24, HST.out.d34⟩⟩
end Go.Proofs.Ytjgajjcgapifoaa
