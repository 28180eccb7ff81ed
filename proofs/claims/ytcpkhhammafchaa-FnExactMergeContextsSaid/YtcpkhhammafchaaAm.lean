/- Lists added to a set of items (program). -/
import Derived.Test.YtcpkhhammafchaaWi
namespace Go.Proofs.Ytcpkhhammafchaa
open Go.RowKit
open Go.Maps (Keyed Tidy IsMap)
set_option linter.unusedVariables false
set_option linter.unusedSimpArgs false
/-- A map's block holds no cells: what reads elsewhere reads on. -/
theorem rd_map {w w' : World} {mB : Nat} {A : Option Addr} {n : Nat} {vs : List Value} {es : Array (Value × Value)} {o : Obj} (h : Rd w A n vs) (hm : w.heap[mB]? = some o) (ho : o.isCells = false) (hc : Ch (· = mB) w w') : Rd w' A n vs := by
  refine ⟨h.1, fun hn => ?_⟩
  obtain ⟨b, off, e, hlt, hcl⟩ := h.2 hn
  have hne : ¬ b = mB := fun e2 => by
    obtain ⟨v, hv⟩ := get_some (xs := vs) (k := 0) (by rw [h.1]; exact hn)
    have h1 := hcl 0 v hv
    subst e2
    unfold World.cell? at h1
    rw [hm] at h1
    cases o <;> simp_all [Obj.isCells]
  exact ⟨b, off, e, Nat.lt_of_lt_of_le hlt hc.size, fun j u hu => (World.cell?_of_block (a := ⟨b, off + j, none⟩) (hc.block b hlt hne)).trans (hcl j u hu)⟩
theorem IsSet.obj {w : World} {g mB : Nat} {len : Int} {xss : List (List Int)} (h : IsSet w g mB len xss) : ∃ o : Obj, w.heap[mB]? = some o ∧ o.isCells = false := by
  obtain ⟨es, clock, hb, _⟩ := h.own
  exact ⟨_, hb, rfl⟩
theorem rdl_map {w w' : World} {mB : Nat} {A : Option Addr} {n : Nat} {xss : List (List Int)} {o : Obj} (h : RdL w A n xss) (hm : w.heap[mB]? = some o) (ho : o.isCells = false) (hc : Ch (· = mB) w w') : RdL w' A n xss := by
  obtain ⟨us, h1, h2, h3⟩ := h
  refine ⟨us, rd_map (es := #[]) h1 hm ho hc, h2, fun i v xs hv hx => ?_⟩
  obtain ⟨A', n', c', e, hn', hr'⟩ := h3 i v xs hv hx
  exact ⟨A', n', c', e, hn', rd_map (es := #[]) hr' hm ho hc⟩
def AddP (w : World) (g mB : Nat) (len : Int) (xss : List (List Int)) (e : Ending) (w' : World) : Prop := e = .returned (.tuple #[]) ∧ IsSet w' g mB len xss ∧ Ch (· = mB) w w'
set_option maxHeartbeats 4000000 in
set_option maxRecDepth 100000 in
theorem add_any (w : World) (g mB : Nat) (len : Int) (xss : List (List Int)) (hs : IsSet w g mB len xss) (A : Option Addr) (n c : Nat) (yss : List (List Int)) (hr : RdL w A n yss) (hn : n ≤ 1000000) (hx : xss.length ≤ 1000000) (hgw : ∀ ys ∈ yss, Gw ys) :
    Calls Try.prog 84 #[.pointer (some ⟨g, 0, none⟩), .slice A n c] w (AddP w g mB len (xss ++ yss)) := by
  have HL : Hid (yss.length = n) := Lib.hid hr.len
  have HS0 := Lib.hid hs; have HR := Lib.hid hr; have HGW := Lib.hid hgw
  obtain ⟨o, hob, hoc⟩ := hs.obj
  have HOB : Hid (w.heap[mB]? = some o ∧ o.isCells = false) := Lib.hid ⟨hob, hoc⟩
  clear hs hr hgw hob hoc
  go_enter Try.func84, Try.ntmps84
  go_wp2_with fail
  go_loopw [8] (fun i wr => ∃ j : Nat, j ≤ n ∧ i = .int .i64 j ∧ IsSet wr g mB len (xss ++ yss.take j) ∧ Hid (Ch (· = mB) w wr)) (fun i _ => n - (intOf i).toNat)
  case atStart => exact ⟨0, by omega, rfl, by simpa using HS0.out, Lib.hid (Ch.refl _ _)⟩
  case round =>
    as_aux_lemma =>
    obtain ⟨j, hj, rfl, hs, HC⟩ := hrel
    by_cases hlt : j < n
    · have hlt' : (j : Int) < (n : Int) := by omega
      obtain ⟨xs, hx2⟩ := get_some (xs := yss) (k := j) (by rw [HL.out]; exact hlt)
      have hrl := rdl_map HR.out HOB.out.1 HOB.out.2 HC.out
      obtain ⟨b, off, A', n', c', rfl, hbs, q1, hn', hr'⟩ := hrl.at_ hx2
      have HG := Lib.hid (HGW.out xs (List.mem_of_getElem? hx2))
      have HNX : Hid (n' ≤ 10) := Lib.hid (by have h1 := hr'.1; have h2 := HG.out.1; simp at h1; omega)
      have HRX := Lib.hid hr'
      have HT : Hid (xss ++ yss.take (j + 1) = (xss ++ yss.take j) ++ [xs]) := Lib.hid (by rw [List.take_add_one, hx2]; simp)
      have HS := Lib.hid hs
      have HM : Hid ((xss ++ yss.take j).length < maxLen) := Lib.hid (by unfold maxLen; simp; omega)
      have x0 : wr.cell? ⟨g, 0, none⟩ = some (.map (some mB)) := blk_cell hs.box 0 rfl
      clear hx2 hr' hs hn' hrl
      go_wp2_with fail
      (first
        | (go_region_law (first
            | (go_simp
               go_at_call 131
               refine (itemOf_k _ A' n' c' xs (by have h := HRX.out; exact h) (by exact HNX.out)).mono ?_
               rintro e w2 ⟨rfl, hb2⟩
               have HB2 := Lib.hid (und1 hb2)
               have hs2 := HS.out.below HB2.out
               obtain ⟨w3, hrun3, hown3, hg3⟩ := hs2.own.update lawIt Try.underlying181 HM.out (val := .bool true) (keyIt (pad_len HG.out.1) HG.out.pad) (plainElem_bool Try.underlying4 true)
               have HS3 := Lib.hid (hs2.add hown3 hg3)
               have HC3 : Hid (Ch (· = mB) w w3) := Lib.hid (HC.out.trans ((ch_below HB2.out).trans (ch_grown hg3 (fun k hk => by injection hk with hk; exact hk.symm))))
               have x2 : w2.cell? ⟨g, 0, none⟩ = some (.map (some mB)) := blk_cell hs2.box 0 rfl
               clear hb2 hs2 hown3 hg3)))
        | fail)
      all_goals
        as_aux_lemma =>
        go_wp2_with fail
        go_roundw
        case rel => exact ⟨j + 1, by omega, by go_num, by rw [HT.out]; exact HS3.out, HC3⟩
        case measure => simp [intOf]; omega
    · obtain rfl : n = j := by omega
      have HE : Hid (yss.take n = yss) := Lib.hid (List.take_of_length_le (by rw [HL.out]; omega))
      go_wp2_with fail
      rw [HE.out] at hs
      go_end0
      exact ⟨rfl, hs, HC.out⟩
end Go.Proofs.Ytcpkhhammafchaa
