/- MergeContexts: what its function value answers. -/
import Derived.Test.YtcpkhhammafchaaAm
import Derived.Test.YtcpkhhammafchaaSr
namespace Go.Proofs.Ytcpkhhammafchaa
open Go.RowKit
set_option linter.unusedVariables false
set_option linter.unusedSimpArgs false
set_option maxHeartbeats 2000000 in
theorem merged_any (w : World) (len : Nat) (A : Option Addr) (n c : Nat) (xss : List (List Int)) (hr : RdL w A n xss) (hn : n ≤ 100000) (A2 : Option Addr) (n2 c2 : Nat) (yss : List (List Int)) (hr2 : RdL w A2 n2 yss) (hn2 : n2 ≤ 100000) (hlen : len ≤ 10) (hx : ∀ xs ∈ xss, Gw xs ∧ xs.length = len) (hy : ∀ ys ∈ yss, Gw ys ∧ ys.length = len) :
    Calls Try.prog 82 #[.int .i64 len, .slice A n c, .slice A2 n2 c2] w (RetP w (sortU (xss ++ yss))) := by
  have hl1 := hr.len; have hl2 := hr2.len
  have HST := Lib.hid (setOf_any w len A n c xss hr (by omega) (fun xs h => (hx xs h).1))
  have HR2 := Lib.hid hr2
  have HXY : Hid (∀ xs ∈ xss ++ yss, Gw xs ∧ xs.length = len) := Lib.hid (fun xs h => by rcases List.mem_append.1 h with h | h; exact hx xs h; exact hy xs h)
  have HY := Lib.hid (fun (ys : List Int) (h : ys ∈ yss) => (hy ys h).1)
  have HL : Hid (xss.length ≤ 1000000 ∧ (xss ++ yss).length ≤ 1000000) := Lib.hid ⟨by omega, by simp; omega⟩
  clear hr hr2 hx hy hl1 hl2
  go_enter Try.func82, Try.ntmps82
  go_wp2_with fail
  refine HST.out.mono ?_
  rintro e w1 ⟨g, mB, rfl, hs, hg, hm, hb⟩
  have HS := Lib.hid hs; have HB := Lib.hid hb; have HGM : Hid (w.heap.size ≤ g ∧ w.heap.size ≤ mB) := Lib.hid ⟨hg, hm⟩
  clear hs hb hg hm HST
  go_wp2_with fail
  refine (add_any w1 g mB len xss HS.out A2 n2 c2 yss (HR2.out.below HB.out (Nat.le_refl _)) (by omega) HL.out.1 HY.out).mono ?_
  rintro e w2 ⟨rfl, hs2, hc2⟩
  have HS2 := Lib.hid hs2
  have HB2 : Hid (Below w.heap.size w w2) := Lib.hid (below_ch HB.out hc2 (fun k hk => by subst hk; exact HGM.out.2) HB.out.size)
  clear hs2 hc2
  go_wp2_with fail
  refine (sorted_any w2 g mB len _ HS2.out hlen HL.out.2 HXY.out).mono ?_
  rintro e w3 ⟨A3, n3, c3, F3, rfl, ho3, hf3, hb3⟩
  have HO3 := Lib.hid ho3; have HF3 := Lib.hid hf3; have HB3 := Lib.hid hb3
  clear ho3 hf3 hb3
  go_wp2_with fail
  go_ret
  exact ⟨A3, n3, c3, F3, rfl, HO3.out, fun q hq => ⟨Nat.le_trans HB2.out.size (HF3.out q hq).1, (HF3.out q hq).2⟩, HB2.out.trans (HB3.out.mono HB2.out.size)⟩
end Go.Proofs.Ytcpkhhammafchaa
