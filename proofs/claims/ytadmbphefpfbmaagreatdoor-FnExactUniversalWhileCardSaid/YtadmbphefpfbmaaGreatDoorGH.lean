/- Texts in one file: CmI, CmT, CmU, CmW. -/
import Derived.Test.YtadmbphefpfbmaaGreatDoorGG
import Derived.Test.YtadmbphefpfbmaaGreatDoorGF
import Derived.Test.YtadmbphefpfbmaaGreatDoorGD
import Derived.Test.YtadmbphefpfbmaaGreatDoorGE
/- Reading a program back: the program's functions. Written by mk_cmi.py. -/
namespace Go.Proofs.YtadmbphefpfbmaaGreatDoor
open Go.RowKit
set_option linter.unusedVariables false
set_option linter.unusedSimpArgs false
/-- Commands, and whether there are any. -/
def BackCP (w : World) (N : Nat) (o : Option (List Cmd)) (e : Ending) (w' : World) : Prop :=
  ∃ A n c zs F, e = .returned (.tuple #[.slice A n c, .bool o.isSome]) ∧ OwnC w' F A n c zs ∧ (∀ k, F k → w.heap.size ≤ k ∧ k < w'.heap.size) ∧ (∀ z, o = some z → zs = z) ∧ n ≤ N ∧ Below w.heap.size w w'
theorem BackCP.none_ {w w' : World} {N : Nat} {o : Option (List Cmd)} (h : o = none) (hb : Below w.heap.size w w') : BackCP w N o (.returned (.tuple #[.slice none 0 0, .bool false])) w' := by
  subst h
  exact ⟨none, 0, 0, [], fun _ => False, rfl, OwnC.nil _, by simp, by simp, by omega, hb⟩
theorem backX_len {x : Tr} {ys : List Cmd} (h : backX x = some ys) : ys.length + 1 ≤ x.nodes := by
  match x, h with
  | .node tag (.node c b), h =>
    have h0 := tag.nodes_pos
    simp only [backX] at h
    split at h
    · obtain ⟨e, h3, rfl⟩ := cSet_some h
      simp only [List.length_singleton, Tr.nodes]; omega
    · split at h
      · obtain ⟨e, bs, h3, h4, rfl⟩ := cWh_some h
        have h6 := backW_len b bs h4
        simp only [List.length_cons, Tr.nodes]; omega
      · cases h
  | .nil, h => simp [backX] at h
  | .node _ .nil, h => simp [backX] at h
theorem step_none {t s x r : Tr} {zs : List Cmd} (h : backW t = appO (some zs) (backW s)) (hs : s = .node x r) (hx : backX x = none) : backW t = none := by
  rw [h, hs, backW_node, hx, appO_none]; rfl
theorem step_some {t s x r : Tr} {zs ys : List Cmd} (h : backW t = appO (some zs) (backW s)) (hs : s = .node x r) (hx : backX x = some ys) : backW t = appO (some (zs ++ ys)) (backW r) := by
  rw [h, hs, backW_node, hx, ← appO_assoc]; rfl
theorem get_of_drop {α : Type} {l r : List α} {k : Nat} {x : α} (h : l.drop k = x :: r) : l[k]? = some x ∧ l.drop (k + 1) = r := by
  constructor
  · have := congrArg (fun q => q[0]?) h
    simpa [List.getElem?_drop] using this
  · rw [← List.drop_drop, h]; rfl
set_option maxHeartbeats 16000000 in
set_option maxRecDepth 100000 in
theorem decodedWhile_any : ∀ (N : Nat) (t : Tr), t.nodes ≤ N → ∀ (w : World) (lo : Nat) (v : Value), IsT w lo w.heap.size v t → lo ≤ w.heap.size → t.nodes ≤ 1000000 → Calls Tryz.prog 160 #[v] w (BackCP w t.nodes (backW t)) := by
  intro N
  induction N with
  | zero => intro t ht; have := t.nodes_pos; omega
  | succ N ih =>
    intro t ht w lo v h hlo hbig
    have HIH := Lib.hid ih
    have HTN : Hid (t.nodes ≤ N + 1) := Lib.hid ht
    have HLO0 := Lib.hid hlo
    clear ih ht hlo
    obtain ⟨o, rfl⟩ := h.isPtr
    have hlit := ownN_lit w #[] 0 4 44 rfl (by omega)
    have hbb := below_new w (.cells #[] 44)
    have h2 := (h.below hbb (Nat.le_refl _)).wide (Nat.le_refl lo) hbb.size
    go_enter Tryz.func160, Tryz.ntmps160
    go_wp2_with fail
    refine (listOfTree_any _ lo _ t h2 hbig).mono ?_
    rintro e w1 ⟨AL, m, cL, us, rfl, hlr, har, hb1⟩
    have HB1 := Lib.hid (hbb.trans (hb1.mono hbb.size))
    have HLR0 := Lib.hid (ownN_base hlr hbb.size)
    have HML : Hid (t.items.length = m) := Lib.hid (by rw [← har.1]; simpa using hlr.1)
    have hmb : m ≤ 1000000 := by have h1 := items_len t; have h2 := HML.out; omega
    have HAR := Lib.hid har
    have h1 := ownN_below hlit hb1 (Nat.le_refl _)
    have HBA := Lib.hid hb1
    clear hlr har hlit hbb hb1 h2 h
    go_wp2_with fail
    go_loopw [4, 19] (fun p q wr => ∃ (k : Nat) (A : Option Addr) (n c : Nat) (zs : List Cmd) (s : Tr), k ≤ m ∧ q = .int .i64 k ∧ p = .slice A n c ∧ OwnC wr (InR w.heap.size wr.heap.size) A n c zs ∧ Hid (backW t = appO (some zs) (backW s)) ∧ Hid (t.items.drop k = s.items) ∧ n + s.nodes ≤ t.nodes ∧ wr.ownsRow w.heap.size 72 1 (.slice AL m cL) m us ∧ AreT wr lo wr.heap.size us t.items ∧ Below w.heap.size w wr) (fun _ q _ => m - (intOf q).toNat)
    case atStart => exact ⟨0, _, 0, 0, [], t, by omega, rfl, rfl, ⟨[], ownN_base h1 (Nat.zero_le _), fun k hk => h1.lt k hk, InnerC.nil _ _, fun k hk => hk.2⟩, Lib.hid (by cases backW t <;> rfl), Lib.hid rfl, by omega, HLR0.out, HAR.out, HB1.out⟩
    case round =>
      clear h1 HLR0 HB1 HAR HBA
      obtain ⟨k, A, n, c, zs, s, hk, rfl, rfl, hown, HK, HS, hcnt, hlr, har, hb⟩ := hrel
      by_cases hlt : k < m
      · have hlt' : (k : Int) < (m : Int) := by omega
        obtain ⟨x, r, hsr⟩ : ∃ x r, s = .node x r := by
          cases s with
          | nil => have h1 := HS.out; have h2 := congrArg List.length h1; simp [Tr.items] at h2; have h3 := HML.out; omega
          | node x r => exact ⟨x, r, rfl⟩
        have HSR := Lib.hid hsr
        have hsi : t.items.drop k = x :: r.items := by rw [HS.out, hsr]; rfl
        obtain ⟨hxk, hrk⟩ := get_of_drop hsi
        have HRK := Lib.hid hrk
        have hxt := item_nodes (List.mem_of_getElem? hxk)
        have HNN : Hid (x.nodes + r.nodes + 1 = s.nodes) := Lib.hid (by rw [hsr]; simp only [Tr.nodes]; omega)
        obtain ⟨u, hu⟩ := get_some (xs := us) (k := k) (by have := hlr.1; simp at this; omega)
        have hx := har.2 k u x hu hxk
        obtain ⟨gl, hg, _, hgs, e0, _⟩ := own_get hlr hu
        subst hg
        have HLO := Lib.hid (Nat.le_trans HLO0.out hb.size)
        have HWR : Hid (wr.heap.size ≤ wr.heap.size) := Lib.hid (Nat.le_refl _)
        obtain ⟨px, rfl⟩ := hx.isPtr
        obtain ⟨ps, hp1, hp3⟩ := hown.parts (B := w.heap.size) (fun k hk => hk)
        have H1 := Lib.hid hp1; have H3 := Lib.hid hp3; have HB := Lib.hid hb; have HLR := Lib.hid hlr; have HAR := Lib.hid har
        have HSZ := Lib.hid hb.size
        have hcd := nilT wr lo wr.heap.size
        clear hsr hsi hxk hrk hown hb hlr hp1 hp3 hu har
        cases x with
        | nil =>
          obtain rfl : px = none := by have h9 : Value.pointer px = .pointer none := hx; injection h9
          have HQ := Lib.hid (step_none HK.out HSR.out rfl)
          clear hcd
          go_wp2_with fail
          refine (headOf_any _ lo _ _ _ hx).mono ?_
          rintro e w' ⟨⟨vtag, rfl, htg⟩, rfl⟩
          obtain ⟨ptag, rfl⟩ := htg.isPtr
          go_wp2_with fail
          refine (tailOf_any _ lo _ _ _ hx).mono ?_
          rintro e w' ⟨⟨vcode, rfl, hcd⟩, rfl⟩
          obtain ⟨pcode, rfl⟩ := hcd.isPtr
          go_wp2_with fail
          go_ret2
          exact BackCP.none_ HQ.out HB.out
        | node tg cd =>
          obtain ⟨bx, vh, vt, e9, _⟩ := id hx
          obtain rfl : px = some ⟨bx, 0, none⟩ := by injection e9
          clear e9 hcd
          have htgp := tg.nodes_pos
          have hxn : tg.nodes + cd.nodes + 3 ≤ t.nodes := by simp only [Tr.nodes] at hxt; omega
          have HNN2 : Hid (tg.nodes + cd.nodes + r.nodes + 2 = s.nodes) := Lib.hid (by have := HNN.out; simp only [Tr.nodes] at this; omega)
          clear hxt HNN
          generalize hT : tagI tg = T
          by_cases h7 : T = 7
          · subst h7
            have HF7 : Hid (tg.beq (tagTr 7) = true) := Lib.hid (by rw [beq_of hT 7 (by omega)]; rfl)
            have HX := Lib.hid (backX_7 (r := cd) hT)
            clear hT
            go_wp2_with fail
            refine (headOf_any _ lo _ _ _ hx).mono ?_
            rintro e w' ⟨⟨vtag, rfl, htg⟩, rfl⟩
            obtain ⟨ptag, rfl⟩ := htg.isPtr
            go_wp2_with fail
            refine (tailOf_any _ lo _ _ _ hx).mono ?_
            rintro e w' ⟨⟨vcode, rfl, hcd⟩, rfl⟩
            obtain ⟨pcode, rfl⟩ := hcd.isPtr
            replace htg : IsT wr lo wr.heap.size (.pointer ptag) tg := htg
            replace hcd : IsT wr lo wr.heap.size (.pointer pcode) cd := hcd
            clear hx e0
            go_wp2_with fail
            refine (tagTree_any _ 7 (by omega) _ rfl).mono ?_
            rintro e u1 ⟨z1, rfl, hz1, hbz1⟩
            obtain ⟨p1, rfl⟩ := hz1.isPtr
            replace hz1 := hz1.wide (lo' := lo) HLO.out (Nat.le_refl _)
            replace HB := Lib.hid (HB.out.trans (hbz1.mono HB.out.size))
            replace HLR := Lib.hid (own_below HLR.out hbz1 (Nat.le_refl _))
            replace HAR := Lib.hid (HAR.out.up hbz1)
            replace H1 := Lib.hid (ownN_below H1.out hbz1 (Nat.le_refl _))
            replace H3 := Lib.hid (H3.out.ch (ch_below (F := fun _ => False) hbz1) (fun _ _ h => h))
            replace HLO := Lib.hid (Nat.le_trans HLO.out hbz1.size)
            replace HWR := Lib.hid (Nat.le_trans HWR.out hbz1.size)
            replace htg := htg.up hbz1
            replace hcd := hcd.up hbz1
            clear hbz1
            go_wp2_with fail
            refine (equal_any tg (tagTr 7) _ lo _ _ _ htg hz1 (Nat.le_refl _)).mono ?_
            rw [HF7.out]
            rintro e w1 ⟨rfl, hby1⟩
            replace HB := Lib.hid (HB.out.trans (hby1.mono HB.out.size))
            replace HLR := Lib.hid (own_below HLR.out hby1 (Nat.le_refl _))
            replace HAR := Lib.hid (HAR.out.up hby1)
            replace H1 := Lib.hid (ownN_below H1.out hby1 (Nat.le_refl _))
            replace H3 := Lib.hid (H3.out.ch (ch_below (F := fun _ => False) hby1) (fun _ _ h => h))
            replace HLO := Lib.hid (Nat.le_trans HLO.out hby1.size)
            replace HWR := Lib.hid (Nat.le_trans HWR.out hby1.size)
            replace htg := htg.up hby1
            replace hcd := hcd.up hby1
            clear hby1 hz1
            have hce := decodedExpr_any cd.nodes cd (Nat.le_refl _) _ lo _ hcd HLO.out (by omega)
            cases hbt : backT cd with
            | none =>
              rw [hbt] at hce
              have HQ := Lib.hid (step_none HK.out HSR.out (by rw [HX.out, hbt]; rfl))
              clear hbt
              go_wp2_with fail
              refine hce.mono ?_
              rintro e w2 ⟨A2, n2, c2, z2, rfl, ho2, hz2, hn2, hb2⟩
              simp only [Option.isSome_none]
              replace HB := Lib.hid (HB.out.trans (hb2.mono HB.out.size))
              go_wp2_with fail
              go_ret2
              exact BackCP.none_ HQ.out HB.out
            | some z =>
              rw [hbt] at hce
              have HZL := Lib.hid (backT_len _ _ hbt)
              have HQ := Lib.hid (step_some HK.out HSR.out (HX.out.trans (by rw [hbt]; rfl)))
              clear hbt
              go_wp2_with fail
              refine hce.mono ?_
              rintro e w2 ⟨A2, n2, c2, z2, rfl, ho2, hz2, hn2, hb2⟩
              obtain rfl : z2 = z := hz2 z rfl
              simp only [Option.isSome_some]
              have hn2' : n2 ≤ 1000000000 := by omega
              have HE := Lib.hid (own_up ho2 (B := wr.heap.size) (fun k hk => Nat.le_trans HWR.out (ho2.lt k hk).1))
              replace HB := Lib.hid (HB.out.trans (hb2.mono HB.out.size))
              replace HLR := Lib.hid (own_below HLR.out hb2 (Nat.le_refl _))
              replace HAR := Lib.hid (HAR.out.up hb2)
              replace H1 := Lib.hid (ownN_below H1.out hb2 (Nat.le_refl _))
              replace H3 := Lib.hid (H3.out.ch (ch_below (F := fun _ => False) hb2) (fun _ _ h => h))
              replace HLO := Lib.hid (Nat.le_trans HLO.out hb2.size)
              replace HWR := Lib.hid (Nat.le_trans HWR.out hb2.size)
              replace hcd := hcd.up hb2
              clear hb2 ho2 hz2 hce
              go_wp2_with fail
              refine (setTo_any _ _ _ _ _).mono ?_
              rintro e w3 ⟨rfl, hb3⟩
              replace HB := Lib.hid (HB.out.trans (hb3.mono HB.out.size))
              replace HLR := Lib.hid (own_below HLR.out hb3 (Nat.le_refl _))
              replace HAR := Lib.hid (HAR.out.up hb3)
              replace H1 := Lib.hid (ownN_below H1.out hb3 (Nat.le_refl _))
              replace H3 := Lib.hid (H3.out.ch (ch_below (F := fun _ => False) hb3) (fun _ _ h => h))
              replace HLO := Lib.hid (Nat.le_trans HLO.out hb3.size)
              replace HWR := Lib.hid (Nat.le_trans HWR.out hb3.size)
              replace hcd := hcd.up hb3
              replace HE := Lib.hid (ownN_below HE.out hb3 (Nat.le_refl _))
              clear hb3
              have hH1 := H1.out
              go_wp2_with (at_builtin; go_must (refine wpList_app1N eltCm (by rfl) _ _ (by rfl) w3 w.heap.size _ n _ (by rfl) hH1 _ (by rfl) (by intro y hy; simp at hy; rcases hy with rfl | rfl | rfl | rfl <;> rfl) (by rfl) HB.out.size (by omega) ?_; rintro A4 c4 w4 ho4 hb4 hg4))
              have HN := Lib.hid (ownC_join (m := n + 1) HSZ.out H1.out H3.out (InnerC.one (x := ⟨0, 0, 0, z2⟩) HE.out hn2' (fun k hk => HE.out.lt k hk)) HWR.out ho4 hg4)
              have HLN := Lib.hid (own_ch HLR.out (ch_row hg4) (own_types HLR.out H1.out (by decide)))
              have HARN := Lib.hid (HAR.out.grownC H1.out hg4)
              go_roundw
              case rel => exact ⟨k + 1, A4, n + 1, c4, _, r, by omega, by go_num, rfl, HN.out, HQ, HRK, by have := HZL.out; have := HNN2.out; omega, HLN.out, HARN.out, HB.out.trans hb4⟩
              case measure => simp [intOf]; omega
          · by_cases h9 : T = 9
            · subst h9
              have HF7 : Hid (tg.beq (tagTr 7) = false) := Lib.hid (by rw [beq_of hT 7 (by omega)]; rfl)
              have HF9 : Hid (tg.beq (tagTr 9) = true) := Lib.hid (by rw [beq_of hT 9 (by omega)]; rfl)
              cases cd with
              | nil =>
                have HQ := Lib.hid (step_none HK.out HSR.out backX_9n)
                clear hT h7
                go_wp2_with fail
                refine (headOf_any _ lo _ _ _ hx).mono ?_
                rintro e w' ⟨⟨vtag, rfl, htg⟩, rfl⟩
                obtain ⟨ptag, rfl⟩ := htg.isPtr
                go_wp2_with fail
                refine (tailOf_any _ lo _ _ _ hx).mono ?_
                rintro e w' ⟨⟨vcode, rfl, hcd⟩, rfl⟩
                obtain ⟨pcode, rfl⟩ := hcd.isPtr
                replace htg : IsT wr lo wr.heap.size (.pointer ptag) tg := htg
                replace hcd : IsT wr lo wr.heap.size (.pointer pcode) .nil := hcd
                clear hx e0
                obtain rfl : pcode = none := by have h9 : Value.pointer pcode = .pointer none := hcd; injection h9
                go_wp2_with fail
                refine (tagTree_any _ 7 (by omega) _ rfl).mono ?_
                rintro e u1 ⟨z1, rfl, hz1, hbz1⟩
                obtain ⟨p1, rfl⟩ := hz1.isPtr
                replace hz1 := hz1.wide (lo' := lo) HLO.out (Nat.le_refl _)
                replace HB := Lib.hid (HB.out.trans (hbz1.mono HB.out.size))
                replace HLR := Lib.hid (own_below HLR.out hbz1 (Nat.le_refl _))
                replace HAR := Lib.hid (HAR.out.up hbz1)
                replace H1 := Lib.hid (ownN_below H1.out hbz1 (Nat.le_refl _))
                replace H3 := Lib.hid (H3.out.ch (ch_below (F := fun _ => False) hbz1) (fun _ _ h => h))
                replace HLO := Lib.hid (Nat.le_trans HLO.out hbz1.size)
                replace HWR := Lib.hid (Nat.le_trans HWR.out hbz1.size)
                replace htg := htg.up hbz1
                replace hcd := hcd.up hbz1
                clear hbz1
                go_wp2_with fail
                refine (equal_any tg (tagTr 7) _ lo _ _ _ htg hz1 (Nat.le_refl _)).mono ?_
                rw [HF7.out]
                rintro e w1 ⟨rfl, hby1⟩
                replace HB := Lib.hid (HB.out.trans (hby1.mono HB.out.size))
                replace HLR := Lib.hid (own_below HLR.out hby1 (Nat.le_refl _))
                replace HAR := Lib.hid (HAR.out.up hby1)
                replace H1 := Lib.hid (ownN_below H1.out hby1 (Nat.le_refl _))
                replace H3 := Lib.hid (H3.out.ch (ch_below (F := fun _ => False) hby1) (fun _ _ h => h))
                replace HLO := Lib.hid (Nat.le_trans HLO.out hby1.size)
                replace HWR := Lib.hid (Nat.le_trans HWR.out hby1.size)
                replace htg := htg.up hby1
                replace hcd := hcd.up hby1
                clear hby1 hz1
                go_wp2_with fail
                refine (tagTree_any _ 9 (by omega) _ rfl).mono ?_
                rintro e u2 ⟨z2, rfl, hz2, hbz2⟩
                obtain ⟨p2, rfl⟩ := hz2.isPtr
                replace hz2 := hz2.wide (lo' := lo) HLO.out (Nat.le_refl _)
                replace HB := Lib.hid (HB.out.trans (hbz2.mono HB.out.size))
                replace HLR := Lib.hid (own_below HLR.out hbz2 (Nat.le_refl _))
                replace HAR := Lib.hid (HAR.out.up hbz2)
                replace H1 := Lib.hid (ownN_below H1.out hbz2 (Nat.le_refl _))
                replace H3 := Lib.hid (H3.out.ch (ch_below (F := fun _ => False) hbz2) (fun _ _ h => h))
                replace HLO := Lib.hid (Nat.le_trans HLO.out hbz2.size)
                replace HWR := Lib.hid (Nat.le_trans HWR.out hbz2.size)
                replace htg := htg.up hbz2
                replace hcd := hcd.up hbz2
                clear hbz2
                go_wp2_with fail
                refine (equal_any tg (tagTr 9) _ lo _ _ _ htg hz2 (Nat.le_refl _)).mono ?_
                rw [HF9.out]
                rintro e w2 ⟨rfl, hby2⟩
                replace HB := Lib.hid (HB.out.trans (hby2.mono HB.out.size))
                replace HLR := Lib.hid (own_below HLR.out hby2 (Nat.le_refl _))
                replace HAR := Lib.hid (HAR.out.up hby2)
                replace H1 := Lib.hid (ownN_below H1.out hby2 (Nat.le_refl _))
                replace H3 := Lib.hid (H3.out.ch (ch_below (F := fun _ => False) hby2) (fun _ _ h => h))
                replace HLO := Lib.hid (Nat.le_trans HLO.out hby2.size)
                replace HWR := Lib.hid (Nat.le_trans HWR.out hby2.size)
                replace htg := htg.up hby2
                replace hcd := hcd.up hby2
                clear hby2 hz2
                go_wp2_with fail
                go_ret2
                exact BackCP.none_ HQ.out HB.out
              | node cc cb =>
                have HX := Lib.hid (backX_9 (c := cc) (b := cb) hT)
                clear hT h7
                have hcbp := cb.nodes_pos
                have hccn : cc.nodes + cb.nodes + 4 ≤ t.nodes := by simp only [Tr.nodes] at hxn; omega
                have HNN3 : Hid (tg.nodes + cc.nodes + cb.nodes + r.nodes + 3 = s.nodes) := Lib.hid (by have := HNN2.out; simp only [Tr.nodes] at this; omega)
                go_wp2_with fail
                refine (headOf_any _ lo _ _ _ hx).mono ?_
                rintro e w' ⟨⟨vtag, rfl, htg⟩, rfl⟩
                obtain ⟨ptag, rfl⟩ := htg.isPtr
                go_wp2_with fail
                refine (tailOf_any _ lo _ _ _ hx).mono ?_
                rintro e w' ⟨⟨vcode, rfl, hcd⟩, rfl⟩
                obtain ⟨pcode, rfl⟩ := hcd.isPtr
                replace htg : IsT wr lo wr.heap.size (.pointer ptag) tg := htg
                replace hcd : IsT wr lo wr.heap.size (.pointer pcode) (.node cc cb) := hcd
                clear hx e0
                obtain ⟨bc0, _, _, e9, _⟩ := id hcd
                obtain rfl : pcode = some ⟨bc0, 0, none⟩ := by injection e9
                clear e9
                go_wp2_with fail
                refine (tagTree_any _ 7 (by omega) _ rfl).mono ?_
                rintro e u1 ⟨z1, rfl, hz1, hbz1⟩
                obtain ⟨p1, rfl⟩ := hz1.isPtr
                replace hz1 := hz1.wide (lo' := lo) HLO.out (Nat.le_refl _)
                replace HB := Lib.hid (HB.out.trans (hbz1.mono HB.out.size))
                replace HLR := Lib.hid (own_below HLR.out hbz1 (Nat.le_refl _))
                replace HAR := Lib.hid (HAR.out.up hbz1)
                replace H1 := Lib.hid (ownN_below H1.out hbz1 (Nat.le_refl _))
                replace H3 := Lib.hid (H3.out.ch (ch_below (F := fun _ => False) hbz1) (fun _ _ h => h))
                replace HLO := Lib.hid (Nat.le_trans HLO.out hbz1.size)
                replace HWR := Lib.hid (Nat.le_trans HWR.out hbz1.size)
                replace htg := htg.up hbz1
                replace hcd := hcd.up hbz1
                clear hbz1
                go_wp2_with fail
                refine (equal_any tg (tagTr 7) _ lo _ _ _ htg hz1 (Nat.le_refl _)).mono ?_
                rw [HF7.out]
                rintro e w1 ⟨rfl, hby1⟩
                replace HB := Lib.hid (HB.out.trans (hby1.mono HB.out.size))
                replace HLR := Lib.hid (own_below HLR.out hby1 (Nat.le_refl _))
                replace HAR := Lib.hid (HAR.out.up hby1)
                replace H1 := Lib.hid (ownN_below H1.out hby1 (Nat.le_refl _))
                replace H3 := Lib.hid (H3.out.ch (ch_below (F := fun _ => False) hby1) (fun _ _ h => h))
                replace HLO := Lib.hid (Nat.le_trans HLO.out hby1.size)
                replace HWR := Lib.hid (Nat.le_trans HWR.out hby1.size)
                replace htg := htg.up hby1
                replace hcd := hcd.up hby1
                clear hby1 hz1
                go_wp2_with fail
                refine (tagTree_any _ 9 (by omega) _ rfl).mono ?_
                rintro e u2 ⟨z2, rfl, hz2, hbz2⟩
                obtain ⟨p2, rfl⟩ := hz2.isPtr
                replace hz2 := hz2.wide (lo' := lo) HLO.out (Nat.le_refl _)
                replace HB := Lib.hid (HB.out.trans (hbz2.mono HB.out.size))
                replace HLR := Lib.hid (own_below HLR.out hbz2 (Nat.le_refl _))
                replace HAR := Lib.hid (HAR.out.up hbz2)
                replace H1 := Lib.hid (ownN_below H1.out hbz2 (Nat.le_refl _))
                replace H3 := Lib.hid (H3.out.ch (ch_below (F := fun _ => False) hbz2) (fun _ _ h => h))
                replace HLO := Lib.hid (Nat.le_trans HLO.out hbz2.size)
                replace HWR := Lib.hid (Nat.le_trans HWR.out hbz2.size)
                replace htg := htg.up hbz2
                replace hcd := hcd.up hbz2
                clear hbz2
                go_wp2_with fail
                refine (equal_any tg (tagTr 9) _ lo _ _ _ htg hz2 (Nat.le_refl _)).mono ?_
                rw [HF9.out]
                rintro e w2 ⟨rfl, hby2⟩
                replace HB := Lib.hid (HB.out.trans (hby2.mono HB.out.size))
                replace HLR := Lib.hid (own_below HLR.out hby2 (Nat.le_refl _))
                replace HAR := Lib.hid (HAR.out.up hby2)
                replace H1 := Lib.hid (ownN_below H1.out hby2 (Nat.le_refl _))
                replace H3 := Lib.hid (H3.out.ch (ch_below (F := fun _ => False) hby2) (fun _ _ h => h))
                replace HLO := Lib.hid (Nat.le_trans HLO.out hby2.size)
                replace HWR := Lib.hid (Nat.le_trans HWR.out hby2.size)
                replace htg := htg.up hby2
                replace hcd := hcd.up hby2
                clear hby2 hz2
                rcases hcd.ptr with ⟨hq0, _⟩ | ⟨bc, vc, vb, hc', hb', hq0, hq, hb1, hb2, c0, c1, _, htc, htb⟩
                · simp at hq0
                cases hq
                obtain rfl : bc0 = bc := by simpa using hq0
                clear hq0 hcd
                obtain ⟨pc, rfl⟩ := htc.isPtr
                obtain ⟨pb, rfl⟩ := htb.isPtr
                have hce := decodedExpr_any cc.nodes cc (Nat.le_refl _) _ lo _ htc HLO.out (by omega)
                cases hbt : backT cc with
                | none =>
                  rw [hbt] at hce
                  have HQ := Lib.hid (step_none HK.out HSR.out (by rw [HX.out, hbt]; exact cWh_l _))
                  clear hbt
                  go_wp2_with fail
                  refine hce.mono ?_
                  rintro e w3 ⟨A2, n2, c2, z2, rfl, ho2, hz2, hn2, hb3⟩
                  simp only [Option.isSome_none]
                  have c3 := (hb3.cell (p := ⟨bc0, 1, none⟩) hb2).trans c1
                  replace HB := Lib.hid (HB.out.trans (hb3.mono HB.out.size))
                  replace HLR := Lib.hid (own_below HLR.out hb3 (Nat.le_refl _))
                  replace HAR := Lib.hid (HAR.out.up hb3)
                  replace H1 := Lib.hid (ownN_below H1.out hb3 (Nat.le_refl _))
                  replace H3 := Lib.hid (H3.out.ch (ch_below (F := fun _ => False) hb3) (fun _ _ h => h))
                  replace HLO := Lib.hid (Nat.le_trans HLO.out hb3.size)
                  replace HWR := Lib.hid (Nat.le_trans HWR.out hb3.size)
                  replace htb := htb.up hb3
                  have hcw := HIH.out cb (by have := HTN.out; omega) _ lo _ htb HLO.out (by omega)
                  go_wp2_with fail
                  refine hcw.mono ?_
                  rintro e w4 ⟨A4, n4, c4, z4, F4, rfl, ho4, hF4, hz4, hn4, hb4⟩
                  replace HB := Lib.hid (HB.out.trans (hb4.mono HB.out.size))
                  generalize (backW cb).isSome = qb
                  go_wp2_with fail
                  go_ret2
                  exact BackCP.none_ HQ.out HB.out
                | some z =>
                  rw [hbt] at hce
                  have HZE := Lib.hid (backT_len _ _ hbt)
                  replace HX := Lib.hid (HX.out.trans (by rw [hbt]))
                  clear hbt
                  go_wp2_with fail
                  refine hce.mono ?_
                  rintro e w3 ⟨A2, n2, c2, z2, rfl, ho2, hz2, hn2, hb3⟩
                  obtain rfl : z2 = z := hz2 z rfl
                  simp only [Option.isSome_some]
                  have hn2' : n2 ≤ 1000000000 := by omega
                  have HE := Lib.hid (own_up ho2 (B := wr.heap.size) (fun k hk => Nat.le_trans HWR.out (ho2.lt k hk).1))
                  have c3 := (hb3.cell (p := ⟨bc0, 1, none⟩) hb2).trans c1
                  replace HB := Lib.hid (HB.out.trans (hb3.mono HB.out.size))
                  replace HLR := Lib.hid (own_below HLR.out hb3 (Nat.le_refl _))
                  replace HAR := Lib.hid (HAR.out.up hb3)
                  replace H1 := Lib.hid (ownN_below H1.out hb3 (Nat.le_refl _))
                  replace H3 := Lib.hid (H3.out.ch (ch_below (F := fun _ => False) hb3) (fun _ _ h => h))
                  replace HLO := Lib.hid (Nat.le_trans HLO.out hb3.size)
                  replace HWR := Lib.hid (Nat.le_trans HWR.out hb3.size)
                  replace htb := htb.up hb3
                  clear hb3 ho2 hz2 hce c0 c1
                  have hcw := HIH.out cb (by have := HTN.out; omega) _ lo _ htb HLO.out (by omega)
                  cases hbw : backW cb with
                  | none =>
                    rw [hbw] at hcw
                    have HQ := Lib.hid (step_none HK.out HSR.out (by rw [HX.out, hbw]; exact cWh_r _))
                    clear hbw
                    go_wp2_with fail
                    refine hcw.mono ?_
                    rintro e w4 ⟨A4, n4, c4, z4, F4, rfl, ho4, hF4, hz4, hn4, hb4⟩
                    simp only [Option.isSome_none]
                    replace HB := Lib.hid (HB.out.trans (hb4.mono HB.out.size))
                    go_wp2_with fail
                    go_ret2
                    exact BackCP.none_ HQ.out HB.out
                  | some zb =>
                    rw [hbw] at hcw
                    have HQ := Lib.hid (step_some HK.out HSR.out (HX.out.trans (by rw [hbw]; rfl)))
                    have HZB := Lib.hid (backW_len _ _ hbw)
                    clear hbw
                    go_wp2_with fail
                    refine hcw.mono ?_
                    rintro e w4 ⟨A4, n4, c4, z4, F4, rfl, ho4, hF4, hz4, hn4, hb4⟩
                    obtain rfl : z4 = zb := hz4 zb rfl
                    simp only [Option.isSome_some]
                    obtain ⟨pb4, hq1, hq3⟩ := ho4.parts (B := w3.heap.size) hF4
                    have HLE : Hid (z4.length = n4) := Lib.hid ho4.len
                    have HI := Lib.hid ((InnerC.one (x := ⟨1, 0, (n4 : Int), z2⟩) (ownN_below HE.out hb4 (Nat.le_refl _)) hn2' (G := InR wr.heap.size w3.heap.size) (fun k hk => HE.out.lt k hk)).append (H := InR wr.heap.size w4.heap.size) hq3 (fun k a b => by have := a.2; have := b.1; omega) (fun k a => ⟨a.1, Nat.lt_of_lt_of_le a.2 hb4.size⟩) (fun k a => ⟨Nat.le_trans HWR.out a.1, a.2⟩))
                    have HR4 := Lib.hid (ownN_rd hq1)
                    have HCL := Lib.hid hq3.cells
                    replace HB := Lib.hid (HB.out.trans (hb4.mono HB.out.size))
                    replace HLR := Lib.hid (own_below HLR.out hb4 (Nat.le_refl _))
                    replace HAR := Lib.hid (HAR.out.up hb4)
                    replace H1 := Lib.hid (ownN_below H1.out hb4 (Nat.le_refl _))
                    replace H3 := Lib.hid (H3.out.ch (ch_below (F := fun _ => False) hb4) (fun _ _ h => h))
                    replace HLO := Lib.hid (Nat.le_trans HLO.out hb4.size)
                    replace HWR := Lib.hid (Nat.le_trans HWR.out hb4.size)
                    clear hb4 ho4 hF4 hz4 hcw hq1 hq3 htb
                    go_wp2_with fail
                    refine (enclosed_any _ _ _ _ _ _ _ z2 z4 pb4 HR4.out HCL.out (by omega)).mono ?_
                    rintro e w5 ⟨A5, c5, rfl, ho5, hb5⟩
                    have HR5 := Lib.hid (ownN_rd ho5)
                    replace HB := Lib.hid (HB.out.trans (hb5.mono HB.out.size))
                    replace HLR := Lib.hid (own_below HLR.out hb5 (Nat.le_refl _))
                    replace HAR := Lib.hid (HAR.out.up hb5)
                    replace H1 := Lib.hid (ownN_below H1.out hb5 (Nat.le_refl _))
                    replace H3 := Lib.hid (H3.out.ch (ch_below (F := fun _ => False) hb5) (fun _ _ h => h))
                    replace HLO := Lib.hid (Nat.le_trans HLO.out hb5.size)
                    replace HWR := Lib.hid (Nat.le_trans HWR.out hb5.size)
                    replace HI := Lib.hid ((HI.out.ch (ch_below (F := fun _ => False) hb5) (fun _ _ h => h)).mono (G := InR wr.heap.size w5.heap.size) (fun k a => ⟨a.1, Nat.lt_of_lt_of_le a.2 hb5.size⟩))
                    clear hb5 ho5
                    have hH1 := H1.out
                    go_wp2_with (at_builtin; go_must (refine wpList_appSN eltCm (by rfl) _ _ (by rfl) w5 w.heap.size _ n _ (by rfl) hH1 A5 (1 + n4) c5 _ (by rfl) HR5.out (enc_one HCL.out) HB.out.size (by omega) ?_; rintro A4 c4 w6 ho4 hb4 hg4))
                    have HEQ : Hid (([⟨1, 0, (n4 : Int), z2⟩] : List Cmd) ++ z4 = ⟨1, 0, (z4.length : Int), z2⟩ :: z4) := Lib.hid (by rw [HLE.out]; rfl)
                    rw [← flatC_append _ _ _ _ rfl] at ho4
                    have HN := Lib.hid (ownC_join (m := n + (1 + n4)) HSZ.out H1.out H3.out HI.out HWR.out ho4 hg4)
                    have HLN := Lib.hid (own_ch HLR.out (ch_row hg4) (own_types HLR.out H1.out (by decide)))
                    have HARN := Lib.hid (HAR.out.grownC H1.out hg4)
                    rw [HEQ.out] at HN
                    have HZL : Hid (n4 ≤ cb.nodes) := Lib.hid hn4
                    go_roundw
                    case rel => exact ⟨k + 1, A4, n + (1 + n4), c4, _, r, by omega, by go_num, rfl, HN.out, HQ, HRK, by have := HZL.out; have := HNN3.out; omega, HLN.out, HARN.out, HB.out.trans hb4⟩
                    case measure => simp [intOf]; omega
            · have HF7 : Hid (tg.beq (tagTr 7) = false) := Lib.hid (by rw [beq_of hT 7 (by omega)]; simpa using h7)
              have HF9 : Hid (tg.beq (tagTr 9) = false) := Lib.hid (by rw [beq_of hT 9 (by omega)]; simpa using h9)
              have HQ := Lib.hid (step_none HK.out HSR.out (backX_no (r := cd) (by rw [hT]; exact h7) (by rw [hT]; exact h9)))
              clear hT h7 h9
              go_wp2_with fail
              refine (headOf_any _ lo _ _ _ hx).mono ?_
              rintro e w' ⟨⟨vtag, rfl, htg⟩, rfl⟩
              obtain ⟨ptag, rfl⟩ := htg.isPtr
              go_wp2_with fail
              refine (tailOf_any _ lo _ _ _ hx).mono ?_
              rintro e w' ⟨⟨vcode, rfl, hcd⟩, rfl⟩
              obtain ⟨pcode, rfl⟩ := hcd.isPtr
              replace htg : IsT wr lo wr.heap.size (.pointer ptag) tg := htg
              replace hcd : IsT wr lo wr.heap.size (.pointer pcode) cd := hcd
              clear hx e0
              go_wp2_with fail
              refine (tagTree_any _ 7 (by omega) _ rfl).mono ?_
              rintro e u1 ⟨z1, rfl, hz1, hbz1⟩
              obtain ⟨p1, rfl⟩ := hz1.isPtr
              replace hz1 := hz1.wide (lo' := lo) HLO.out (Nat.le_refl _)
              replace HB := Lib.hid (HB.out.trans (hbz1.mono HB.out.size))
              replace HLR := Lib.hid (own_below HLR.out hbz1 (Nat.le_refl _))
              replace HAR := Lib.hid (HAR.out.up hbz1)
              replace H1 := Lib.hid (ownN_below H1.out hbz1 (Nat.le_refl _))
              replace H3 := Lib.hid (H3.out.ch (ch_below (F := fun _ => False) hbz1) (fun _ _ h => h))
              replace HLO := Lib.hid (Nat.le_trans HLO.out hbz1.size)
              replace HWR := Lib.hid (Nat.le_trans HWR.out hbz1.size)
              replace htg := htg.up hbz1
              replace hcd := hcd.up hbz1
              clear hbz1
              go_wp2_with fail
              refine (equal_any tg (tagTr 7) _ lo _ _ _ htg hz1 (Nat.le_refl _)).mono ?_
              rw [HF7.out]
              rintro e w1 ⟨rfl, hby1⟩
              replace HB := Lib.hid (HB.out.trans (hby1.mono HB.out.size))
              replace HLR := Lib.hid (own_below HLR.out hby1 (Nat.le_refl _))
              replace HAR := Lib.hid (HAR.out.up hby1)
              replace H1 := Lib.hid (ownN_below H1.out hby1 (Nat.le_refl _))
              replace H3 := Lib.hid (H3.out.ch (ch_below (F := fun _ => False) hby1) (fun _ _ h => h))
              replace HLO := Lib.hid (Nat.le_trans HLO.out hby1.size)
              replace HWR := Lib.hid (Nat.le_trans HWR.out hby1.size)
              replace htg := htg.up hby1
              replace hcd := hcd.up hby1
              clear hby1 hz1
              go_wp2_with fail
              refine (tagTree_any _ 9 (by omega) _ rfl).mono ?_
              rintro e u2 ⟨z2, rfl, hz2, hbz2⟩
              obtain ⟨p2, rfl⟩ := hz2.isPtr
              replace hz2 := hz2.wide (lo' := lo) HLO.out (Nat.le_refl _)
              replace HB := Lib.hid (HB.out.trans (hbz2.mono HB.out.size))
              replace HLR := Lib.hid (own_below HLR.out hbz2 (Nat.le_refl _))
              replace HAR := Lib.hid (HAR.out.up hbz2)
              replace H1 := Lib.hid (ownN_below H1.out hbz2 (Nat.le_refl _))
              replace H3 := Lib.hid (H3.out.ch (ch_below (F := fun _ => False) hbz2) (fun _ _ h => h))
              replace HLO := Lib.hid (Nat.le_trans HLO.out hbz2.size)
              replace HWR := Lib.hid (Nat.le_trans HWR.out hbz2.size)
              replace htg := htg.up hbz2
              replace hcd := hcd.up hbz2
              clear hbz2
              go_wp2_with fail
              refine (equal_any tg (tagTr 9) _ lo _ _ _ htg hz2 (Nat.le_refl _)).mono ?_
              rw [HF9.out]
              rintro e w2 ⟨rfl, hby2⟩
              replace HB := Lib.hid (HB.out.trans (hby2.mono HB.out.size))
              replace HLR := Lib.hid (own_below HLR.out hby2 (Nat.le_refl _))
              replace HAR := Lib.hid (HAR.out.up hby2)
              replace H1 := Lib.hid (ownN_below H1.out hby2 (Nat.le_refl _))
              replace H3 := Lib.hid (H3.out.ch (ch_below (F := fun _ => False) hby2) (fun _ _ h => h))
              replace HLO := Lib.hid (Nat.le_trans HLO.out hby2.size)
              replace HWR := Lib.hid (Nat.le_trans HWR.out hby2.size)
              replace htg := htg.up hby2
              replace hcd := hcd.up hby2
              clear hby2 hz2
              go_wp2_with fail
              go_ret2
              exact BackCP.none_ HQ.out HB.out
      · obtain rfl : k = m := by omega
        have HQ : Hid (backW t = some zs) := Lib.hid (by
          have h1 := HS.out
          rw [List.drop_of_length_le (by rw [HML.out]; omega)] at h1
          have hs : s = .nil := by
            cases s with
            | nil => rfl
            | node x r => simp [Tr.items] at h1
          rw [HK.out, hs]
          simp [backW, appO])
        have hsn := s.nodes_pos
        go_wp2_with fail
        go_ret2
        exact ⟨A, n, c, zs, _, by rw [HQ.out]; rfl, hown, fun k hk => hk, (by intro z hz; rw [HQ.out] at hz; injection hz), by omega, hb⟩
end Go.Proofs.YtadmbphefpfbmaaGreatDoor
/- Reading a program back: the reference's functions. Written by mk_cmt.py. -/
namespace Go.Proofs.YtadmbphefpfbmaaGreatDoor
open Go.RowKit
set_option linter.unusedVariables false
set_option linter.unusedSimpArgs false
theorem Stk.grownC {w w' : World} {lo B n : Nat} {us vs : List Value} {xss : List (List Bool)} {v : Value} (h : Stk w lo us xss) (ho : w.ownsRow B 44 4 v n vs) (hg : w.grownBy w' v.ownBlock) : Stk w' lo us xss := by
  refine ⟨h.1, fun i u xs hu hx => ?_⟩
  obtain ⟨A, m, c, rfl, hr⟩ := h.2 i u xs hu hx
  exact ⟨A, m, c, rfl, own_ch hr (ch_row hg) (own_types hr ho (by decide))⟩
theorem Stk.base {w : World} {lo lo' : Nat} {us : List Value} {xss : List (List Bool)} (h : Stk w lo us xss) (hl : lo' ≤ lo) : Stk w lo' us xss := by
  refine ⟨h.1, fun i u xs hu hx => ?_⟩
  obtain ⟨A, m, c, rfl, hr⟩ := h.2 i u xs hu hx
  exact ⟨A, m, c, rfl, own_base hr hl⟩
def ItsP (w : World) (t : Tr) (e : Ending) (w' : World) : Prop :=
  ∃ A n c us, e = .returned (.slice A n c) ∧ w'.ownsRow w.heap.size 22 1 (.slice A n c) n us ∧ Stk w' w.heap.size us (t.items.map Tr.bits) ∧ Below w.heap.size w w'
set_option maxHeartbeats 2000000 in
theorem l21Items_any (w : World) (A : Option Addr) (n c : Nat) (t : Tr) (hr : Rd w A n (bools t.bits)) (hn : n ≤ 1000000) (hnc : n ≤ c) : Calls Tryz.prog 168 #[.slice A n c] w (ItsP w t) := by
  have HL : Hid (n = t.nodes) := Lib.hid (by have := hr.1; simp [Tr.bits_len] at this; exact this.symm)
  have hil := items_len t
  rw [← HL.out] at hil
  have hlit := own_lit w #[] 0 22 rfl (by omega)
  have hbb := below_new w (.cells #[] 22)
  have hpos := t.nodes_pos
  rw [← HL.out] at hpos
  obtain ⟨blk, off, hA, hbs, hc⟩ := hr.2 (by omega)
  subst hA
  go_enter Tryz.func168, Tryz.ntmps168
  go_wp2_with fail
  go_loopw [3, 4] (fun p q wr => ∃ (s : Tr) (k : Nat) (ts : List Tr) (A : Option Addr) (m c : Nat) (us : List Value), q = .int .i64 k ∧ p = .slice A m c ∧ wr.ownsRow w.heap.size 22 1 (.slice A m c) m us ∧ Stk wr w.heap.size us (ts.map Tr.bits) ∧ Hid (t.items = ts ++ s.items) ∧ Hid (t.bits.drop k = s.bits) ∧ k + s.nodes = n ∧ m + s.items.length = t.items.length ∧ Below w.heap.size w wr) (fun _ q _ => n - (intOf q).toNat)
  case atStart => exact ⟨t, 0, [], _, 0, 0, [], rfl, rfl, hlit, ⟨rfl, by simp⟩, Lib.hid rfl, Lib.hid rfl, by rw [HL.out]; omega, by omega, hbb⟩
  case round =>
    clear hlit hbb
    obtain ⟨s, k, ts, A, m, c2, us, rfl, rfl, hown, hst, HI, HD, hks, hms, hb⟩ := hrel
    have hsp := s.nodes_pos
    have hkn : k < n := by omega
    have hkn' : (k : Int) < (n : Int) := by omega
    have hr' := hr.below hb (Nat.le_refl _)
    cases s with
    | nil =>
      have hk0 : t.bits[k]? = some false := by
        have := congrArg (fun q => q[0]?) HD.out
        simpa [List.getElem?_drop, Tr.bits] using this
      have q0 := (hb.cell (p := ⟨blk, off + k, none⟩) hbs).trans (hc k (.bool false) (by simp [hk0]))
      clear hk0
      go_wp2_with fail
      go_ret
      refine ⟨A, m, c2, us, rfl, hown, ?_, hb⟩
      rw [HI.out]
      simpa [Tr.items] using hst
    | node x r =>
      have hk0 : t.bits[k]? = some true := by
        have := congrArg (fun q => q[0]?) HD.out
        simpa [List.getElem?_drop, Tr.bits] using this
      have q0 := (hb.cell (p := ⟨blk, off + k, none⟩) hbs).trans (hc k (.bool true) (by simp [hk0]))
      clear hk0
      have hd1 : t.bits.drop (k + 1) = x.bits ++ r.bits := by rw [← List.drop_drop, HD.out]; simp [Tr.bits]
      obtain ⟨he, hle⟩ := endAt_part (bs := t.bits) (k := k + 1) (s := x) (r := r.bits) hd1 (by rw [Tr.bits_len, ← HL.out]; omega)
      rw [Tr.bits_len, ← HL.out] at hle
      have HE := Lib.hid he
      have hxp := x.nodes_pos
      have hrp := r.nodes_pos
      have hnn : k + 1 + x.nodes + r.nodes = n := by simp only [Tr.nodes] at hks; omega
      have hcut := rd_part hr' (i := k + 1) (j := k + 1 + x.nodes) (by omega) (by omega)
      have hcx : ((bools t.bits).drop (k + 1)).take (k + 1 + x.nodes - (k + 1)) = bools x.bits := by
        rw [Nat.add_sub_cancel_left]
        show ((t.bits.map Value.bool).drop (k + 1)).take x.nodes = x.bits.map Value.bool
        rw [← List.map_drop, hd1, List.map_append, ← x.bits_len, List.take_left' (by simp)]
      rw [hcx] at hcut
      have HD2 : Hid (t.bits.drop (k + 1 + x.nodes) = r.bits) := Lib.hid (by rw [← List.drop_drop, hd1, ← x.bits_len, List.drop_left])
      have HI2 : Hid (t.items = (ts ++ [x]) ++ r.items) := Lib.hid (by rw [HI.out]; simp [Tr.items])
      have hms2 : m + 1 + r.items.length = t.items.length := by simp only [Tr.items, List.length_cons] at hms; omega
      clear he hd1 hcx hks hms hsp
      generalize hxn : x.nodes = xn at *
      have z1 : (k : Int) + 1 ≤ ((k + 1 + xn : Nat) : Int) := by omega
      have z2 : ((k + 1 + xn : Nat) : Int) ≤ (c : Int) := by omega
      have z3 : k + 1 ≤ k + 1 + xn := by omega
      have z4 : ¬ c = k + 1 := by omega
      have HXN := Lib.hid hxn
      clear hxn
      go_wp2_with (go_at_call 80; go_must (refine (l21End_any _ _ _ _ _ hr' (by omega) (k + 1) (by omega)).mono ?_; rw [HE.out]; rintro e w' ⟨rfl, rfl⟩))
      refine (l21Own_any _ _ _ _ x.bits (by first | exact hcut | (simp only [Nat.add_sub_cancel_left] at hcut ⊢; exact hcut)) (by omega)).mono ?_
      rintro e w3 ⟨A3, n3, c3, rfl, ho3, hb3⟩
      have hown3 := own_below hown hb3 (Nat.le_refl _)
      have hst3 := (hst.below hb3 (Nat.le_refl _)).snoc ho3 hb.size
      have HB3 := Lib.hid (hb.trans (hb3.mono hb.size))
      clear hown hst hb3 hr' hcut ho3
      go_wp2_with (at_builtin; go_must (refine wpList_app1g eltSB rfl _ _ rfl w3 w.heap.size _ m _ (by rfl) hown3 _ (by rfl) (by rfl) HB3.out.size (by omega) ?_; rintro A4 c4 w4 hown4 hb4 hg4))
      have hst4 := hst3.grown hown3 (by decide) hg4
      go_roundw
      case rel => exact ⟨r, k + 1 + xn, ts ++ [x], A4, m + 1, c4, _, by go_num, rfl, hown4, by simpa using hst4, HI2, HD2, by omega, hms2, HB3.out.trans hb4⟩
      case measure => simp [intOf]; omega
end Go.Proofs.YtadmbphefpfbmaaGreatDoor
/- Reading a program back: the reference's l23BackList. Written by mk_cmt.py. -/
namespace Go.Proofs.YtadmbphefpfbmaaGreatDoor
open Go.RowKit
set_option linter.unusedVariables false
set_option linter.unusedSimpArgs false
theorem ownC_join2 {W w7 w8 : World} {us vs ws1 ws7 : List Value} {zs ys : List Cmd} {B M n n7 m c1 : Nat} {A1 : Option Addr} {v v7 : Value} (hB : B ≤ M) (h1 : W.ownsRow B 44 4 v n ws1) (h7 : w7.ownsRow B 44 4 v7 n7 ws7) (h3 : InnerC W (InR B M) us zs) (h5 : InnerC W (InR M W.heap.size) vs ys) (hM : M ≤ W.heap.size)
    (ho : w8.ownsRow B 44 4 (.slice A1 m c1) m (flatC zs us ++ flatC ys vs)) (hg7 : W.grownBy w7 v.ownBlock) (hg8 : w7.grownBy w8 v7.ownBlock) : OwnC w8 (InR B w8.heap.size) A1 m c1 (zs ++ ys) := by
  have hs7 := hg7.size
  have hs8 := hg8.size
  refine ⟨us ++ vs, ?_, fun k hk => ho.lt k hk, ?_, fun k hk => hk.2⟩
  · rw [flatC_append _ _ _ _ h3.1]; exact ownN_base ho (Nat.zero_le _)
  · exact ((h3.grown h1 hg7).grown h7 hg8).append ((h5.grown h1 hg7).grown h7 hg8) (fun k a b => by have := a.2; have := b.1; omega) (fun k a => ⟨a.1, by have := a.2; omega⟩) (fun k a => ⟨by have := a.1; omega, by have := a.2; omega⟩)
theorem Stk.at_ {w : World} {lo k : Nat} {us : List Value} {ts : List Tr} {u : Value} {x : Tr} (h : Stk w lo us (ts.map Tr.bits)) (hu : us[k]? = some u) (hx : ts[k]? = some x) : ∃ A n c, u = .slice A n c ∧ n = x.nodes ∧ n ≤ c ∧ Rd w A n (bools x.bits) := by
  obtain ⟨A, n, c, rfl, ho⟩ := h.2 k u x.bits hu (by simp [hx])
  exact ⟨A, n, c, rfl, by have := ho.1; simp [Tr.bits_len] at this; omega, ownN_cap ho, own_rd ho⟩
set_option maxHeartbeats 16000000 in
set_option maxRecDepth 100000 in
theorem l23BackList_any : ∀ (N : Nat) (t : Tr), t.nodes ≤ N → ∀ (w : World) (A : Option Addr) (n c : Nat), Rd w A n (bools t.bits) → n ≤ 1000000 → n ≤ c → Calls Tryz.prog 122 #[.slice A n c] w (BackCP w t.nodes (backW t)) := by
  intro N
  induction N with
  | zero => intro t ht; have := t.nodes_pos; omega
  | succ N ih =>
    intro t ht w A0 n0 c0 hr hn0 hnc
    have HIH := Lib.hid ih
    have HTN : Hid (t.nodes ≤ N + 1) := Lib.hid ht
    have hbig : t.nodes ≤ 1000000 := by have := hr.1; simp [Tr.bits_len] at this; omega
    clear ih ht
    go_enter Tryz.func122, Tryz.ntmps122
    go_wp2_with fail
    refine (l21Items_any _ _ _ _ t hr hn0 hnc).mono ?_
    rintro e w1 ⟨AL, m, cL, us, rfl, hlr, hst, hb1⟩
    have hlit := ownN_base (ownN_lit w1 #[] 0 4 44 rfl (by omega)) hb1.size
    have hbb := below_new w1 (.cells #[] 44)
    have HB1 := Lib.hid (hb1.trans (hbb.mono hb1.size))
    have HLR0 := Lib.hid (own_below hlr hbb (Nat.le_refl _))
    have HST0 := Lib.hid (hst.below hbb (Nat.le_refl _))
    have HML : Hid (t.items.length = m) := Lib.hid (by have h1 := hst.1; have h2 := hlr.1; simp at h1 h2; omega)
    have hmb : m ≤ 1000000 := by have h1 := items_len t; have h2 := HML.out; omega
    have HRD := Lib.hid hr
    clear hlr hst hbb hb1 hr
    go_wp2_with fail
    go_loopw [5, 6] (fun p q wr => ∃ (k : Nat) (A : Option Addr) (n c : Nat) (zs : List Cmd) (s : Tr), k ≤ m ∧ q = .int .i64 k ∧ p = .slice A n c ∧ OwnC wr (InR w.heap.size wr.heap.size) A n c zs ∧ Hid (backW t = appO (some zs) (backW s)) ∧ Hid (t.items.drop k = s.items) ∧ n + s.nodes ≤ t.nodes ∧ wr.ownsRow w.heap.size 22 1 (.slice AL m cL) m us ∧ Stk wr w.heap.size us (t.items.map Tr.bits) ∧ Below w.heap.size w wr) (fun _ q _ => m - (intOf q).toNat)
    case atStart => exact ⟨0, _, 0, 0, [], t, by omega, rfl, rfl, ⟨[], ownN_base hlit (Nat.zero_le _), fun k hk => hlit.lt k hk, InnerC.nil _ _, fun k hk => hk.2⟩, Lib.hid (by cases backW t <;> rfl), Lib.hid rfl, by omega, HLR0.out, HST0.out, HB1.out⟩
    case round =>
      clear hlit HLR0 HB1 HST0
      obtain ⟨k, A, n, c, zs, s, hk, rfl, rfl, hown, HK, HS, hcnt, hlr, hst, hb⟩ := hrel
      by_cases hlt : k < m
      · have hlt' : (k : Int) < (m : Int) := by omega
        obtain ⟨x, r, hsr⟩ : ∃ x r, s = .node x r := by
          cases s with
          | nil => have h1 := HS.out; have h2 := congrArg List.length h1; simp [Tr.items] at h2; have h3 := HML.out; omega
          | node x r => exact ⟨x, r, rfl⟩
        have HSR := Lib.hid hsr
        have hsi : t.items.drop k = x :: r.items := by rw [HS.out, hsr]; rfl
        obtain ⟨hxk, hrk⟩ := get_of_drop hsi
        have HRK := Lib.hid hrk
        have hxt := item_nodes (List.mem_of_getElem? hxk)
        have HNN : Hid (x.nodes + r.nodes + 1 = s.nodes) := Lib.hid (by rw [hsr]; simp only [Tr.nodes]; omega)
        obtain ⟨u, hu⟩ := get_some (xs := us) (k := k) (by have := hlr.1; simp at this; omega)
        obtain ⟨Ax, nx, cx, hux, hnx, hncx, hrx⟩ := hst.at_ hu hxk
        subst hux
        obtain ⟨gl, hg, _, hgs, e0, _⟩ := own_get hlr hu
        subst hg
        have HWR : Hid (wr.heap.size ≤ wr.heap.size) := Lib.hid (Nat.le_refl _)
        obtain ⟨ps, hp1, hp3⟩ := hown.parts (B := w.heap.size) (fun k hk => hk)
        have H1 := Lib.hid hp1; have H3 := Lib.hid hp3; have HB := Lib.hid hb; have HLR := Lib.hid hlr; have HST := Lib.hid hst
        have HSZ := Lib.hid hb.size
        have HFO := Lib.hid (fun k hk => (hp1.lt k hk).2)
        have hnx' : nx ≤ 1000000 := by omega
        clear hsr hsi hxk hrk hown hb hlr hp1 hp3 hu hst hnx
        go_wp2_with fail
        refine (l23Open_any _ _ _ _ x hrx (by omega) hncx).mono ?_
        rintro e w2 ⟨A2, n2, c2, rfl, ho2, hb2⟩
        have hr2 := own_rd ho2
        have hc2 := ownN_cap ho2
        replace HB := Lib.hid (HB.out.trans (hb2.mono HB.out.size))
        replace HLR := Lib.hid (own_below HLR.out hb2 (Nat.le_refl _))
        replace HST := Lib.hid (HST.out.below hb2 (Nat.le_refl _))
        replace H1 := Lib.hid (ownN_below H1.out hb2 (Nat.le_refl _))
        replace H3 := Lib.hid (H3.out.ch (ch_below (F := fun _ => False) hb2) (fun _ _ h => h))
        replace HWR := Lib.hid (Nat.le_trans HWR.out hb2.size)
        clear hb2 ho2 hrx e0
        cases x with
        | nil =>
          have HQ := Lib.hid (step_none HK.out HSR.out rfl)
          simp only [opTag] at *
          clear hr2
          go_wp2_with fail
          go_ret2
          exact BackCP.none_ HQ.out HB.out
        | node tg cd =>
          have htgp := tg.nodes_pos
          have hxn : tg.nodes + cd.nodes + 3 ≤ t.nodes := by simp only [Tr.nodes] at hxt; omega
          have HNN2 : Hid (tg.nodes + cd.nodes + r.nodes + 2 = s.nodes) := Lib.hid (by have := HNN.out; simp only [Tr.nodes] at this; omega)
          clear hxt HNN
          simp only [opTag]
          replace hr2 : Rd w2 A2 n2 (bools cd.bits) := hr2
          have hn2 : n2 = cd.nodes := by have := hr2.1; simp [Tr.bits_len] at this; exact this.symm
          have hn2' : n2 ≤ 1000000 := by omega
          have HN2 := Lib.hid hn2
          clear hn2
          generalize hT : tagI tg = T
          by_cases h7 : T = 7
          · subst h7
            have HX := Lib.hid (backX_7 (r := cd) hT)
            clear hT
            have hce := l23Back_any cd.nodes cd (Nat.le_refl _) _ _ _ _ hr2 hn2' hc2
            cases hbt : backT cd with
            | none =>
              rw [hbt] at hce
              have HQ := Lib.hid (step_none HK.out HSR.out (by rw [HX.out, hbt]; rfl))
              clear hbt
              go_wp2_with fail
              refine hce.mono ?_
              rintro e w3 ⟨A3, n3, c3, z3, rfl, ho3, hz3, hn3, hb3⟩
              simp only [Option.isSome_none]
              replace HB := Lib.hid (HB.out.trans (hb3.mono HB.out.size))
              go_wp2_with fail
              go_ret2
              exact BackCP.none_ HQ.out HB.out
            | some z =>
              rw [hbt] at hce
              have HZL := Lib.hid (backT_len _ _ hbt)
              have HQ := Lib.hid (step_some HK.out HSR.out (HX.out.trans (by rw [hbt]; rfl)))
              clear hbt
              go_wp2_with fail
              refine hce.mono ?_
              rintro e w3 ⟨A3, n3, c3, z3, rfl, ho3, hz3, hn3, hb3⟩
              obtain rfl : z3 = z := hz3 z rfl
              simp only [Option.isSome_some]
              have hn3' : n3 ≤ 1000000000 := by omega
              have HE := Lib.hid (own_up ho3 (B := wr.heap.size) (fun k hk => Nat.le_trans HWR.out (ho3.lt k hk).1))
              replace HB := Lib.hid (HB.out.trans (hb3.mono HB.out.size))
              replace HLR := Lib.hid (own_below HLR.out hb3 (Nat.le_refl _))
              replace HST := Lib.hid (HST.out.below hb3 (Nat.le_refl _))
              replace H1 := Lib.hid (ownN_below H1.out hb3 (Nat.le_refl _))
              replace H3 := Lib.hid (H3.out.ch (ch_below (F := fun _ => False) hb3) (fun _ _ h => h))
              replace HWR := Lib.hid (Nat.le_trans HWR.out hb3.size)
              clear hb3 ho3 hz3 hce hr2
              have hH1 := H1.out
              go_wp2_with (at_builtin; go_must (refine wpList_app1N eltCm (by rfl) _ _ (by rfl) w3 w.heap.size _ n _ (by rfl) hH1 _ (by rfl) (by intro y hy; simp at hy; rcases hy with rfl | rfl | rfl | rfl <;> rfl) (by rfl) HB.out.size (by omega) ?_; rintro A4 c4 w4 ho4 hb4 hg4))
              have HN := Lib.hid (ownC_join (m := n + 1) HSZ.out H1.out H3.out (InnerC.one (x := ⟨0, 0, 0, z3⟩) HE.out hn3' (fun k hk => HE.out.lt k hk)) HWR.out ho4 hg4)
              have HLN := Lib.hid (own_ch HLR.out (ch_row hg4) (own_types HLR.out H1.out (by decide)))
              have HSN := Lib.hid (HST.out.grownC H1.out hg4)
              go_roundw
              case rel => exact ⟨k + 1, A4, n + 1, c4, _, r, by omega, by go_num, rfl, HN.out, HQ, HRK, by have := HZL.out; have := HNN2.out; omega, HLN.out, HSN.out, HB.out.trans hb4⟩
              case measure => simp [intOf]; omega
          · have b7 : (T == 7) = false := by simpa using h7
            by_cases h9 : T = 9
            · subst h9
              clear h7 b7
              cases cd with
              | nil =>
                have HQ := Lib.hid (step_none HK.out HSR.out backX_9n)
                clear hT
                obtain ⟨b2, off2, rfl, hbs2, q2⟩ := hr2.at_ (k := 0) (u := .bool false) rfl
                simp only [Nat.add_zero] at q2
                have hpos2 : 0 < n2 := by rw [HN2.out]; simp only [Tr.nodes]; omega
                go_wp2_with fail
                go_ret2
                exact BackCP.none_ HQ.out HB.out
              | node cc cb =>
                have HX := Lib.hid (backX_9 (c := cc) (b := cb) hT)
                clear hT
                have hcbp := cb.nodes_pos
                have hccp := cc.nodes_pos
                have hccn : cc.nodes + cb.nodes + 4 ≤ t.nodes := by simp only [Tr.nodes] at hxn; omega
                have HNN3 : Hid (tg.nodes + cc.nodes + cb.nodes + r.nodes + 3 = s.nodes) := Lib.hid (by have := HNN2.out; simp only [Tr.nodes] at this; omega)
                obtain ⟨b2, off2, hA2, hbs2, q2⟩ := hr2.at_ (k := 0) (u := .bool true) rfl
                subst hA2
                simp only [Nat.add_zero] at q2
                have hpos2 : 0 < n2 := by rw [HN2.out]; simp only [Tr.nodes]; omega
                go_wp2_with fail
                refine (l21Head_any _ _ _ _ _ hr2 (by omega) hc2).mono ?_
                rintro e w3 ⟨A3, n3, c3, rfl, ho3, hb3⟩
                replace ho3 : w3.ownsRow w2.heap.size 4 1 (.slice A3 n3 c3) n3 (bools cc.bits) := ho3
                have hn3 : n3 ≤ 1000000 := by have := ho3.1; simp [Tr.bits_len] at this; omega
                replace HB := Lib.hid (HB.out.trans (hb3.mono HB.out.size))
                replace HLR := Lib.hid (own_below HLR.out hb3 (Nat.le_refl _))
                replace HST := Lib.hid (HST.out.below hb3 (Nat.le_refl _))
                replace H1 := Lib.hid (ownN_below H1.out hb3 (Nat.le_refl _))
                replace H3 := Lib.hid (H3.out.ch (ch_below (F := fun _ => False) hb3) (fun _ _ h => h))
                replace HWR := Lib.hid (Nat.le_trans HWR.out hb3.size)
                replace hr2 := hr2.below hb3 (Nat.le_refl _)
                have hr3 := own_rd ho3
                have hc3 := ownN_cap ho3
                clear ho3 hb3 q2
                have hce := l23Back_any cc.nodes cc (Nat.le_refl _) _ _ _ _ hr3 (by omega) hc3
                cases hbt : backT cc with
                | none =>
                  rw [hbt] at hce
                  have HQ := Lib.hid (step_none HK.out HSR.out (by rw [HX.out, hbt]; exact cWh_l _))
                  clear hbt
                  go_wp2_with fail
                  refine hce.mono ?_
                  rintro e w4 ⟨A4, n4, c4, z4, rfl, ho4, hz4, hn4, hb4⟩
                  simp only [Option.isSome_none]
                  replace HB := Lib.hid (HB.out.trans (hb4.mono HB.out.size))
                  replace HLR := Lib.hid (own_below HLR.out hb4 (Nat.le_refl _))
                  replace HST := Lib.hid (HST.out.below hb4 (Nat.le_refl _))
                  replace H1 := Lib.hid (ownN_below H1.out hb4 (Nat.le_refl _))
                  replace H3 := Lib.hid (H3.out.ch (ch_below (F := fun _ => False) hb4) (fun _ _ h => h))
                  replace HWR := Lib.hid (Nat.le_trans HWR.out hb4.size)
                  replace hr2 := hr2.below hb4 (Nat.le_refl _)
                  clear hb4
                  go_wp2_with fail
                  refine (l21Tail_any _ _ _ _ _ hr2 (by omega) hc2).mono ?_
                  rintro e w5 ⟨A5, n5, c5, rfl, ho5, hb5⟩
                  replace ho5 : w5.ownsRow w4.heap.size 4 1 (.slice A5 n5 c5) n5 (bools cb.bits) := ho5
                  have hn5 : n5 ≤ 1000000 := by have := ho5.1; simp [Tr.bits_len] at this; omega
                  replace HB := Lib.hid (HB.out.trans (hb5.mono HB.out.size))
                  replace HLR := Lib.hid (own_below HLR.out hb5 (Nat.le_refl _))
                  replace HST := Lib.hid (HST.out.below hb5 (Nat.le_refl _))
                  replace H1 := Lib.hid (ownN_below H1.out hb5 (Nat.le_refl _))
                  replace H3 := Lib.hid (H3.out.ch (ch_below (F := fun _ => False) hb5) (fun _ _ h => h))
                  replace HWR := Lib.hid (Nat.le_trans HWR.out hb5.size)
                  have hcw := HIH.out cb (by have := HTN.out; omega) _ _ _ _ (own_rd ho5) (by omega) (ownN_cap ho5)
                  go_wp2_with fail
                  refine hcw.mono ?_
                  rintro e w6 ⟨A6, n6, c6, z6, F6, rfl, ho6, hF6, hz6, hn6, hb6⟩
                  replace HB := Lib.hid (HB.out.trans (hb6.mono HB.out.size))
                  generalize (backW cb).isSome = qb
                  go_wp2_with fail
                  go_ret2
                  exact BackCP.none_ HQ.out HB.out
                | some z =>
                  rw [hbt] at hce
                  have HZE := Lib.hid (backT_len _ _ hbt)
                  replace HX := Lib.hid (HX.out.trans (by rw [hbt]))
                  clear hbt
                  go_wp2_with fail
                  refine hce.mono ?_
                  rintro e w4 ⟨A4, n4, c4, z4, rfl, ho4, hz4, hn4, hb4⟩
                  obtain rfl : z4 = z := hz4 z rfl
                  simp only [Option.isSome_some]
                  have hn4' : n4 ≤ 1000000000 := by omega
                  have HE := Lib.hid (own_up ho4 (B := wr.heap.size) (fun k hk => Nat.le_trans HWR.out (ho4.lt k hk).1))
                  replace HB := Lib.hid (HB.out.trans (hb4.mono HB.out.size))
                  replace HLR := Lib.hid (own_below HLR.out hb4 (Nat.le_refl _))
                  replace HST := Lib.hid (HST.out.below hb4 (Nat.le_refl _))
                  replace H1 := Lib.hid (ownN_below H1.out hb4 (Nat.le_refl _))
                  replace H3 := Lib.hid (H3.out.ch (ch_below (F := fun _ => False) hb4) (fun _ _ h => h))
                  replace HWR := Lib.hid (Nat.le_trans HWR.out hb4.size)
                  replace hr2 := hr2.below hb4 (Nat.le_refl _)
                  clear hb4 ho4 hz4 hce hr3
                  go_wp2_with fail
                  refine (l21Tail_any _ _ _ _ _ hr2 (by omega) hc2).mono ?_
                  rintro e w5 ⟨A5, n5, c5, rfl, ho5, hb5⟩
                  replace ho5 : w5.ownsRow w4.heap.size 4 1 (.slice A5 n5 c5) n5 (bools cb.bits) := ho5
                  have hn5 : n5 ≤ 1000000 := by have := ho5.1; simp [Tr.bits_len] at this; omega
                  replace HB := Lib.hid (HB.out.trans (hb5.mono HB.out.size))
                  replace HLR := Lib.hid (own_below HLR.out hb5 (Nat.le_refl _))
                  replace HST := Lib.hid (HST.out.below hb5 (Nat.le_refl _))
                  replace H1 := Lib.hid (ownN_below H1.out hb5 (Nat.le_refl _))
                  replace H3 := Lib.hid (H3.out.ch (ch_below (F := fun _ => False) hb5) (fun _ _ h => h))
                  replace HWR := Lib.hid (Nat.le_trans HWR.out hb5.size)
                  replace HE := Lib.hid (ownN_below HE.out hb5 (Nat.le_refl _))
                  have hr5 := own_rd ho5
                  have hc5 := ownN_cap ho5
                  clear ho5 hb5 hr2
                  have hcw := HIH.out cb (by have := HTN.out; omega) _ _ _ _ hr5 (by omega) hc5
                  cases hbw : backW cb with
                  | none =>
                    rw [hbw] at hcw
                    have HQ := Lib.hid (step_none HK.out HSR.out (by rw [HX.out, hbw]; exact cWh_r _))
                    clear hbw
                    go_wp2_with fail
                    refine hcw.mono ?_
                    rintro e w6 ⟨A6, n6, c6, z6, F6, rfl, ho6, hF6, hz6, hn6, hb6⟩
                    simp only [Option.isSome_none]
                    replace HB := Lib.hid (HB.out.trans (hb6.mono HB.out.size))
                    go_wp2_with fail
                    go_ret2
                    exact BackCP.none_ HQ.out HB.out
                  | some zb =>
                    rw [hbw] at hcw
                    have HQ := Lib.hid (step_some HK.out HSR.out (HX.out.trans (by rw [hbw]; rfl)))
                    clear hbw
                    go_wp2_with fail
                    refine hcw.mono ?_
                    rintro e w6 ⟨A6, n6, c6, z6, F6, rfl, ho6, hF6, hz6, hn6, hb6⟩
                    obtain rfl : z6 = zb := hz6 zb rfl
                    simp only [Option.isSome_some]
                    obtain ⟨pb6, hq1, hq3⟩ := ho6.parts (B := w5.heap.size) hF6
                    have HLE : Hid (z6.length = n6) := Lib.hid ho6.len
                    have HE6 := Lib.hid (ownN_below HE.out hb6 (Nat.le_refl _))
                    have HI5 := Lib.hid ((InnerC.one (x := ⟨1, 0, (n6 : Int), z4⟩) HE6.out hn4' (G := InR wr.heap.size w5.heap.size) (fun k hk => HE.out.lt k hk)).append (H := InR wr.heap.size w6.heap.size) hq3 (fun k a b => by have := a.2; have := b.1; omega) (fun k a => ⟨a.1, Nat.lt_of_lt_of_le a.2 hb6.size⟩) (fun k a => ⟨Nat.le_trans HWR.out a.1, a.2⟩))
                    have HQ6 := Lib.hid hq1
                    have HWR5 := Lib.hid HWR.out
                    have HCL := Lib.hid hq3.cells
                    replace HB := Lib.hid (HB.out.trans (hb6.mono HB.out.size))
                    replace HLR := Lib.hid (own_below HLR.out hb6 (Nat.le_refl _))
                    replace HST := Lib.hid (HST.out.below hb6 (Nat.le_refl _))
                    replace H1 := Lib.hid (ownN_below H1.out hb6 (Nat.le_refl _))
                    replace H3 := Lib.hid (H3.out.ch (ch_below (F := fun _ => False) hb6) (fun _ _ h => h))
                    replace HWR := Lib.hid (Nat.le_trans HWR.out hb6.size)
                    clear hb6 ho6 hF6 hz6 hcw hq1 hq3 hr5
                    have hH1 := H1.out
                    go_wp2_with (first
                      | (at_builtin; refine wpList_app1N eltCm (by rfl) _ _ (by rfl) w6 w.heap.size _ n _ (by rfl) hH1 _ (by rfl) (by intro y hy; simp at hy; rcases hy with rfl | rfl | rfl | rfl <;> rfl) (by rfl) HB.out.size (by omega) ?_; rintro A7 c7 w7 ho7 hb7 hg7; have HR7 := Lib.hid (ownN_rd (own_ch HQ6.out (ch_row hg7) (fun k h1 h2 => by have h3 := (HQ6.out.lt k h1).1; have h4 := HFO.out k h2; have h5 := HWR5.out; omega))))
                      | (at_builtin; go_must (refine wpList_appSN eltCm (by rfl) _ _ (by rfl) w7 w.heap.size _ (n + 1) _ (by rfl) ho7 A6 n6 c6 _ (by rfl) HR7.out (flatC_one _ _ HCL.out) (Nat.le_trans HB.out.size hb7.size) (by omega) ?_; rintro A4 c4 w8 ho4 hb4 hg4)))
                    have HEQ : Hid ((⟨1, 0, (n6 : Int), z4⟩ :: z6 : List Cmd) = ⟨1, 0, (z6.length : Int), z4⟩ :: z6) := Lib.hid (by rw [HLE.out])
                    rw [List.append_assoc] at ho4
                    have HN := Lib.hid (ownC_join2 (m := n + 1 + n6) HSZ.out H1.out ho7 H3.out HI5.out HWR.out ho4 hg7 hg4)
                    have HLN := Lib.hid (own_ch (own_ch HLR.out (ch_row hg7) (own_types HLR.out H1.out (by decide))) (ch_row hg4) (own_types (own_ch HLR.out (ch_row hg7) (own_types HLR.out H1.out (by decide))) ho7 (by decide)))
                    have HSN := Lib.hid ((HST.out.grownC H1.out hg7).grownC ho7 hg4)
                    have HBN := Lib.hid (hb7.trans hb4)
                    have HZL : Hid (n6 ≤ cb.nodes) := Lib.hid hn6
                    have HN2 := Lib.hid (show OwnC w8 (InR w.heap.size w8.heap.size) A4 (n + 1 + n6) c4 (zs ++ (⟨1, 0, (z6.length : Int), z4⟩ :: z6)) from by rw [← HEQ.out]; exact HN.out)
                    go_roundw
                    case rel => exact ⟨k + 1, A4, n + 1 + n6, c4, _, r, by omega, by go_num, rfl, HN2.out, HQ, HRK, by have := HZL.out; have := HNN3.out; omega, HLN.out, HSN.out, HB.out.trans HBN.out⟩
                    case measure => simp [intOf]; omega
            · have b9 : (T == 9) = false := by simpa using h9
              have b9' : (T != 9) = true := by simpa using h9
              have HQ := Lib.hid (step_none HK.out HSR.out (backX_no (r := cd) (by rw [hT]; exact h7) (by rw [hT]; exact h9)))
              clear hT h7 h9
              go_wp2_with fail
              go_ret2
              exact BackCP.none_ HQ.out HB.out
      · obtain rfl : k = m := by omega
        have HQ : Hid (backW t = some zs) := Lib.hid (by
          have h1 := HS.out
          rw [List.drop_of_length_le (by rw [HML.out]; omega)] at h1
          have hs : s = .nil := by
            cases s with
            | nil => rfl
            | node x r => simp [Tr.items] at h1
          rw [HK.out, hs]
          simp [backW, appO])
        have hsn := s.nodes_pos
        go_wp2_with fail
        go_ret2
        exact ⟨A, n, c, zs, _, by rw [HQ.out]; rfl, hown, fun k hk => hk, (by intro z hz; rw [HQ.out] at hz; injection hz), by omega, hb⟩
end Go.Proofs.YtadmbphefpfbmaaGreatDoor
/- DecodeWhile and IsProgramTree: both functions. -/
namespace Go.Proofs.YtadmbphefpfbmaaGreatDoor
open Go.RowKit
set_option linter.unusedVariables false
set_option linter.unusedSimpArgs false
/-- The program of a tree, and a code. -/
def pot (t : Tr) : List Cmd × Int := match backW t with
  | none => ([], 9)
  | some z => if isW z then (z, 0) else ([], 5)
theorem pot_none {t : Tr} (h : backW t = none) : pot t = ([], 9) := by simp [pot, h]
theorem pot_bad {t : Tr} {z : List Cmd} (h : backW t = some z) (hw : isW z = false) : pot t = ([], 5) := by simp [pot, h, hw]
theorem pot_ok {t : Tr} {z : List Cmd} (h : backW t = some z) (hw : isW z = true) : pot t = (z, 0) := by simp [pot, h, hw]
def dewP (bs : List Bool) : List Cmd × Int := if isTr bs then pot (treeB bs) else ([], 1)
def dewL (bs : List Bool) : List Cmd := (dewP bs).1
def dewC (bs : List Bool) : Int := (dewP bs).2
theorem dew_bad {bs : List Bool} (h : isTr bs = false) : dewP bs = ([], 1) := by simp [dewP, h]
theorem dew_tr {t : Tr} (h : t.nodes ≤ 2000) : dewP t.bits = pot t := by simp [dewP, isTr_bits h, treeB_bits]
/-- Commands and a code. -/
def CodP (w : World) (r : List Cmd × Int) (e : Ending) (w' : World) : Prop :=
  ∃ A n c F, e = .returned (.tuple #[.slice A n c, .int .i64 r.2]) ∧ OwnC w' F A n c r.1 ∧ (∀ k, F k → w.heap.size ≤ k ∧ k < w'.heap.size) ∧ Below w.heap.size w w'
theorem CodP.none_ {w w' : World} {r : List Cmd × Int} {x : Int} (h : r = ([], x)) (hb : Below w.heap.size w w') : CodP w r (.returned (.tuple #[.slice none 0 0, .int .i64 x])) w' := by
  subst h
  exact ⟨none, 0, 0, fun _ => False, rfl, OwnC.nil _, by simp, hb⟩
theorem CodP.lift {w w1 w' : World} {r : List Cmd × Int} {e : Ending} (h : CodP w1 r e w') (hb : Below w.heap.size w w1) : CodP w r e w' := by
  obtain ⟨A, n, c, F, h1, h2, h3, h4⟩ := h
  exact ⟨A, n, c, F, h1, h2, fun k hk => ⟨Nat.le_trans hb.size (h3 k hk).1, (h3 k hk).2⟩, hb.trans (h4.mono hb.size)⟩
set_option maxHeartbeats 2000000 in
theorem programOfTree_any (w : World) (lo : Nat) (v : Value) (t : Tr) (h : IsT w lo w.heap.size v t) (hlo : lo ≤ w.heap.size) (hn : t.nodes ≤ 1000000) : Calls Tryz.prog 116 #[v] w (CodP w (pot t)) := by
  have hc := decodedWhile_any t.nodes t (Nat.le_refl _) w lo v h hlo hn
  obtain ⟨o, rfl⟩ := h.isPtr
  cases hb : backW t with
  | none =>
    rw [hb] at hc
    have HQ := Lib.hid (pot_none hb)
    clear hb
    go_enter Tryz.func116, Tryz.ntmps116
    go_wp2_with fail
    refine hc.mono ?_
    rintro e w2 ⟨A2, n2, c2, z2, F2, rfl, ho2, hF2, hz2, hn2, hb2⟩
    simp only [Option.isSome_none]
    go_wp2_with fail
    go_ret2
    exact CodP.none_ HQ.out hb2
  | some z =>
    rw [hb] at hc
    cases hw : isW z with
    | false =>
      have HQ := Lib.hid (pot_bad hb hw)
      have HW := Lib.hid hw
      clear hb hw
      go_enter Tryz.func116, Tryz.ntmps116
      go_wp2_with fail
      refine hc.mono ?_
      rintro e w2 ⟨A2, n2, c2, z2, F2, rfl, ho2, hF2, hz2, hn2, hb2⟩
      obtain rfl : z2 = z := hz2 z rfl
      simp only [Option.isSome_some]
      go_wp2_with fail
      refine (ValidWhile_any _ _ _ _ _ ho2.rdc (by omega) ho2.cap).mono ?_
      rw [HW.out]
      rintro e w3 ⟨rfl, hb3⟩
      go_wp2_with fail
      go_ret2
      exact CodP.none_ HQ.out (hb2.trans (hb3.mono hb2.size))
    | true =>
      have HQ := Lib.hid (pot_ok hb hw)
      have HW := Lib.hid hw
      clear hb hw
      go_enter Tryz.func116, Tryz.ntmps116
      go_wp2_with fail
      refine hc.mono ?_
      rintro e w2 ⟨A2, n2, c2, z2, F2, rfl, ho2, hF2, hz2, hn2, hb2⟩
      obtain rfl : z2 = z := hz2 z rfl
      simp only [Option.isSome_some]
      go_wp2_with fail
      refine (ValidWhile_any _ _ _ _ _ ho2.rdc (by omega) ho2.cap).mono ?_
      rw [HW.out]
      rintro e w3 ⟨rfl, hb3⟩
      go_wp2_with fail
      go_ret2
      exact ⟨A2, n2, c2, F2, by rw [HQ.out]; rfl, by rw [HQ.out]; exact ho2.below hb3, fun k hk => ⟨(hF2 k hk).1, Nat.lt_of_lt_of_le (hF2 k hk).2 hb3.size⟩, hb2.trans (hb3.mono hb2.size)⟩
set_option maxHeartbeats 2000000 in
theorem l23DecodeWhile_any (w : World) (A : Option Addr) (n c : Nat) (bs : List Bool) (hr : Rd w A n (bools bs)) (hn : n ≤ 1099511627776) (hnc : n ≤ c) : Calls Tryz.prog 81 #[.slice A n c] w (CodP w (dewP bs)) := by
  cases hv : isTr bs with
  | false =>
    have HQ := Lib.hid (dew_bad hv)
    have HV := Lib.hid hv
    clear hv
    go_enter Tryz.func81, Tryz.ntmps81
    go_wp2_with (go_at_call 22; go_must (refine (l21Is_any _ _ _ _ _ hr hn).mono ?_; rw [HV.out]; rintro e w' ⟨rfl, rfl⟩))
    go_ret2
    exact CodP.none_ HQ.out (Below.refl _ _)
  | true =>
    have HV := Lib.hid hv
    obtain ⟨t, rfl, ht⟩ := isTr_tree hv
    have hnt : n ≤ 2000 := by have := hr.1; simp [Tr.bits_len] at this; omega
    have hc := l23BackList_any t.nodes t (Nat.le_refl _) w A n c hr (by omega) hnc
    have HDT := Lib.hid (dew_tr ht)
    clear hv
    rw [HDT.out]
    cases hb : backW t with
    | none =>
      rw [hb] at hc
      have HQ := Lib.hid (pot_none hb)
      clear hb
      go_enter Tryz.func81, Tryz.ntmps81
      go_wp2_with (go_at_call 22; go_must (refine (l21Is_any _ _ _ _ _ hr hn).mono ?_; rw [HV.out]; rintro e w' ⟨rfl, rfl⟩))
      refine hc.mono ?_
      rintro e w2 ⟨A2, n2, c2, z2, F2, rfl, ho2, hF2, hz2, hn2, hb2⟩
      simp only [Option.isSome_none]
      go_wp2_with fail
      go_ret2
      exact CodP.none_ HQ.out hb2
    | some z =>
      rw [hb] at hc
      cases hw : isW z with
      | false =>
        have HQ := Lib.hid (pot_bad hb hw)
        have HW := Lib.hid hw
        clear hb hw
        go_enter Tryz.func81, Tryz.ntmps81
        go_wp2_with (go_at_call 22; go_must (refine (l21Is_any _ _ _ _ _ hr hn).mono ?_; rw [HV.out]; rintro e w' ⟨rfl, rfl⟩))
        refine hc.mono ?_
        rintro e w2 ⟨A2, n2, c2, z2, F2, rfl, ho2, hF2, hz2, hn2, hb2⟩
        obtain rfl : z2 = z := hz2 z rfl
        simp only [Option.isSome_some]
        go_wp2_with fail
        refine (l22Is_any _ _ _ _ _ ho2.rdc (by omega)).mono ?_
        rw [HW.out]
        rintro e w3 ⟨rfl, hb3⟩
        go_wp2_with fail
        go_ret2
        exact CodP.none_ HQ.out (hb2.trans (hb3.mono hb2.size))
      | true =>
        have HQ := Lib.hid (pot_ok hb hw)
        have HW := Lib.hid hw
        clear hb hw
        go_enter Tryz.func81, Tryz.ntmps81
        go_wp2_with (go_at_call 22; go_must (refine (l21Is_any _ _ _ _ _ hr hn).mono ?_; rw [HV.out]; rintro e w' ⟨rfl, rfl⟩))
        refine hc.mono ?_
        rintro e w2 ⟨A2, n2, c2, z2, F2, rfl, ho2, hF2, hz2, hn2, hb2⟩
        obtain rfl : z2 = z := hz2 z rfl
        simp only [Option.isSome_some]
        go_wp2_with fail
        refine (l22Is_any _ _ _ _ _ ho2.rdc (by omega)).mono ?_
        rw [HW.out]
        rintro e w3 ⟨rfl, hb3⟩
        go_wp2_with fail
        go_ret2
        exact ⟨A2, n2, c2, F2, by rw [HQ.out]; rfl, by rw [HQ.out]; exact ho2.below hb3, fun k hk => ⟨(hF2 k hk).1, Nat.lt_of_lt_of_le (hF2 k hk).2 hb3.size⟩, hb2.trans (hb3.mono hb2.size)⟩
set_option maxHeartbeats 1000000 in
theorem specDecodeWhile_any (w : World) (A : Option Addr) (n c : Nat) (bs : List Bool) (hr : Rd w A n (bools bs)) (hn : n ≤ 1099511627776) (hnc : n ≤ c) : Calls Tryz.prog 51 #[.slice A n c] w (CodP w (dewP bs)) := by
  go_enter Tryz.func51, Tryz.ntmps51
  go_wp2_with fail
  refine (l23DecodeWhile_any _ _ _ _ _ hr hn hnc).mono ?_
  rintro e w2 ⟨A2, n2, c2, F2, rfl, ho2, hF2, hb2⟩
  generalize dewP bs = r at *
  obtain ⟨rl, rc⟩ := r
  go_wp2_with fail
  go_ret2
  exact ⟨A2, n2, c2, F2, rfl, ho2, hF2, hb2⟩
end Go.Proofs.YtadmbphefpfbmaaGreatDoor
