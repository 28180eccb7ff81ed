/- Digits joined to a natural: the reference's l02Join and FromDigits, the program's fromDigits, limited and FromDigits. -/
import Derived.Test.YtdpkcnjoklnoeaaLawW
namespace Go.Proofs.Ytdpkcnjoklnoeaa
open Go.RowKit Limb

def joinVal (b : Nat) : List Int → Nat
  | [] => 0
  | d :: ds => d.toNat + b * joinVal b ds
theorem joinVal_drop_le (b : Nat) (hb : 1 ≤ b) (ds : List Int) (j : Nat) : joinVal b (ds.drop j) ≤ joinVal b ds := by
  induction ds generalizing j with
  | nil => simp
  | cons d ds ih =>
    cases j with
    | zero => simp
    | succ j =>
      simp only [List.drop_succ_cons, joinVal]
      have h1 := ih j
      have h2 : 1 * joinVal b ds ≤ b * joinVal b ds := Nat.mul_le_mul_right _ hb
      omega
theorem joinVal_step {b : Nat} {ds : List Int} {j : Nat} {d : Int} (h : ds[j]? = some d) : joinVal b (ds.drop j) = joinVal b (ds.drop (j + 1)) * b + d.toNat := by
  rw [drop_get h, joinVal, Nat.mul_comm]; omega
theorem joinVal_lt (b : Nat) (ds : List Int) (h : ∀ d ∈ ds, 0 ≤ d ∧ d < b) : joinVal b ds < b ^ ds.length := by
  induction ds with
  | nil => simp [joinVal]
  | cons d ds ih =>
    have h1 := ih (fun x hx => h x (by simp [hx]))
    have h2 := h d (by simp)
    simp only [joinVal, List.length_cons, Nat.pow_succ]
    have h3 : b * (joinVal b ds + 1) ≤ b * b ^ ds.length := Nat.mul_le_mul_left b h1
    have h4 : b ^ ds.length * b = b * b ^ ds.length := Nat.mul_comm _ _
    rw [h4]
    have h5 : b * (joinVal b ds + 1) = b * joinVal b ds + b := Nat.mul_succ _ _
    omega
theorem joinVal_len (b : Nat) (hb2 : b ≤ 1000000) (ds : List Int) (h : ∀ d ∈ ds, 0 ≤ d ∧ d < b) : (limbs (joinVal b ds)).length ≤ ds.length :=
  limbs_len (Nat.lt_of_lt_of_le (joinVal_lt b ds h) (Nat.pow_le_pow_left hb2 _))

/-- A list and a bool. -/
def RetSB (w : World) (e : TypeId) (vs : List Value) (ok : Bool) (en : Ending) (w' : World) : Prop :=
  ∃ A n c, en = .returned (.tuple #[.slice A n c, .bool ok]) ∧ w'.ownsRow w.heap.size e 1 (.slice A n c) n vs ∧ Below w.heap.size w w'
def fitOr (V : Nat) : List Int := if (limbs V).length ≤ 40 then limbs V else []
def fitB (V : Nat) : Bool := decide ((limbs V).length ≤ 40)
def fitCode (V : Nat) : Int := if (limbs V).length ≤ 40 then 0 else 5
theorem fit_yes {V : Nat} (h : (limbs V).length ≤ 40) : fitOr V = limbs V ∧ fitB V = true ∧ fitCode V = 0 := by simp [fitOr, fitB, fitCode, h]
theorem fit_no {V : Nat} (h : ¬ (limbs V).length ≤ 40) : fitOr V = [] ∧ fitB V = false ∧ fitCode V = 5 := by
  refine ⟨by simp only [fitOr, if_neg h], by simpa [fitB] using h, by simp only [fitCode, if_neg h]⟩
theorem fitOr_len (V : Nat) : (fitOr V).length ≤ 40 := by
  by_cases h : (limbs V).length ≤ 40
  · rw [(fit_yes h).1]; exact h
  · rw [(fit_no h).1]; simp

set_option maxHeartbeats 1000000 in
theorem l02Join_any (w : World) (A : Option Addr) (n c : Nat) (ds : List Int) (hr : Rd w A n (ints ds)) (hn : n ≤ 1000000) (b : Int) (hb0 : 1 ≤ b) (hb1 : b ≤ 1000000) (hds : ∀ d ∈ ds, 0 ≤ d ∧ d < b) :
    Calls Try.prog 58 #[.slice A n c, .int .i64 b] w (RetSB w 2 (ints (fitOr (joinVal b.toNat ds))) (fitB (joinVal b.toNat ds))) := by
  have HL : Hid (ds.length = n) := Lib.hid (by simpa using hr.1)
  have HD := Lib.hid hds; clear hds
  go_enter Try.func58, Try.ntmps58
  go_wp2_with fail
  go_loopw [6, 7] (fun v i wr => ∃ (j m : Nat), i = .int .i64 ((j : Int) - 1) ∧ j ≤ n ∧ m ≤ 40 ∧ wr.ownsRow w.heap.size 2 1 v m (ints (limbs (joinVal b.toNat (ds.drop j)))) ∧ Below w.heap.size w wr) (fun _ i _ => (intOf i + 1).toNat)
  case atStart => exact ⟨n, 0, rfl, by omega, by omega, by rw [List.drop_of_length_le (by rw [HL.out]; omega)]; exact own_zero w _, below_new _ _⟩
  case round =>
    obtain ⟨j, m, rfl, hj, hm, hown, hb⟩ := hrel
    obtain ⟨Ao, co, rfl, hco, _⟩ := own_form hown
    rcases Nat.eq_zero_or_pos j with h0 | h0
    · subst h0
      go_wp2_with fail
      go_ret2
      rw [List.drop_zero] at hown
      have hf := fit_yes (V := joinVal b.toNat ds) (by rw [own_limb_len hown]; omega)
      rw [hf.1, hf.2.1]
      exact ⟨Ao, m, co, rfl, hown, hb⟩
    · obtain ⟨k, rfl⟩ : ∃ k, j = k + 1 := ⟨j - 1, by omega⟩
      have ek : (((k + 1 : Nat) : Int) - 1) = (k : Int) := by omega
      rw [ek]
      clear ek
      obtain ⟨x, hx⟩ := get_some (xs := ds) (k := k) (by rw [HL.out]; omega)
      have hxb : 0 ≤ x ∧ x < b := by obtain ⟨hk', rfl⟩ := List.getElem?_eq_some_iff.1 hx; exact HD.out _ (List.getElem_mem hk')
      obtain ⟨hx0, hx1⟩ := hxb
      obtain ⟨bb, off, rfl, hbk, hcx⟩ := hr.at_ (ints_get hx)
      have hcx1 := (hb.cell (p := ⟨bb, off + k, none⟩) hbk).trans hcx
      have HX := Lib.hid hx
      have HB := Lib.hid hb
      have HO := Lib.hid hown
      have HST := Lib.hid (joinVal_step (b := b.toNat) hx)
      have HLE := Lib.hid (joinVal_drop_le b.toNat (by omega) ds k)
      clear hx hcx hb hown
      generalize joinVal b.toNat (ds.drop (k + 1)) = N at HO HST
      have hkn : k < n := by omega
      have hbr : bb < wr.heap.size := Nat.lt_of_lt_of_le hbk HB.out.size
      go_wp2_with fail
      go_region_held3 (fun w' => w'.cell? ⟨bb, off + k, none⟩ = some (.int .i64 x)) (assumption)
        (first
          | (go_at_call 52; refine (l02Of_any _ _ (by omega)).mono ?_; rintro e w1 ⟨A1, n1, c1, rfl, ho1, hb1⟩; (try replace hb1 := below_undrew hb1); have hcx1 := (hb1.cell (p := ⟨bb, off + k, none⟩) hbr).trans hcx1; have hbr := Nat.lt_of_lt_of_le hbr hb1.size)
          | (go_at_call 51; refine (l02Mul_limbs _ _ _ _ N ((own_rd HO.out).below hb1 (Nat.le_refl _)) (by omega) _ _ _ b.toNat (own_rd ho1) (by have := own_small ho1 (by omega); omega)).mono ?_; rintro e w2 ⟨A2, n2, c2, rfl, ho2, hb2⟩; have hcx1 := (hb2.cell (p := ⟨bb, off + k, none⟩) hbr).trans hcx1; have hbr := Nat.lt_of_lt_of_le hbr hb2.size; have hl2 := own_mul_len ho2 HO.out ho1; have hl1 := own_small ho1 (by omega); have HBB := Lib.hid (hb1.trans (hb2.mono hb1.size)))
          | (go_at_call 50; refine (l02Add_limbs _ _ _ _ (N * b.toNat) ((own_rd ho2).below hb1 (Nat.le_refl _)) (by omega) _ _ _ x.toNat (own_rd ho1) (by have := own_small ho1 (by omega); omega)).mono ?_; rintro e w3 ⟨A3, n3, c3, rfl, ho3, hb3⟩; have hcx1 := (hb3.cell (p := ⟨bb, off + k, none⟩) hbr).trans hcx1; have HB3 := Lib.hid (HBB.out.trans ((hb1.trans (hb3.mono hb1.size)).mono HBB.out.size))))
      have HBF : Hid (Below w.heap.size w w3) := Lib.hid (HB.out.trans (HB3.out.mono HB.out.size))
      have HO3 := Lib.hid (own_base ho3 (Nat.le_trans HB.out.size (Nat.le_trans HBB.out.size hb1.size)))
      by_cases h40 : 40 < n3
      · go_wp2_with fail
        go_ret2
        have hf := fit_no (V := joinVal b.toNat ds) (by
          have h1 := own_limb_len ho3
          rw [← HST.out] at h1
          have h2 := limbs_len_mono HLE.out
          omega)
        rw [hf.1, hf.2.1]
        exact ⟨none, 0, 0, rfl, own_nil _ _ _, HBF.out⟩
      · go_wp2_with fail
        go_roundw
        case rel => exact ⟨k, n3, rfl, by omega, by omega, by rw [HST.out]; exact HO3.out, HBF.out⟩
        case measure => simp only [intOf]; omega

set_option maxHeartbeats 1000000 in
theorem fromDigits_any (w : World) (A : Option Addr) (n c : Nat) (ds : List Int) (hr : Rd w A n (ints ds)) (hn : n ≤ 500000) (b : Int) (hb0 : 1 ≤ b) (hb1 : b ≤ 1000000) (hds : ∀ d ∈ ds, 0 ≤ d ∧ d < b) :
    Calls Try.prog 61 #[.slice A n c, .int .i64 b] w (RetS w 2 (ints (limbs (joinVal b.toNat ds)))) := by
  have HL : Hid (ds.length = n) := Lib.hid (by simpa using hr.1)
  have HD := Lib.hid hds; clear hds
  go_enter Try.func61, Try.ntmps61
  go_wp2_with fail
  go_loopw [5, 6] (fun v i wr => ∃ (j m : Nat), i = .int .i64 ((j : Int) - 1) ∧ j ≤ n ∧ m ≤ n ∧ wr.ownsRow w.heap.size 2 1 v m (ints (limbs (joinVal b.toNat (ds.drop j)))) ∧ Below w.heap.size w wr) (fun _ i _ => (intOf i + 1).toNat)
  case atStart => exact ⟨n, 0, rfl, by omega, by omega, by rw [List.drop_of_length_le (by rw [HL.out]; omega)]; exact own_zero w _, below_new _ _⟩
  case round =>
    obtain ⟨j, m, rfl, hj, hm, hown, hb⟩ := hrel
    obtain ⟨Ao, co, rfl, hco, _⟩ := own_form hown
    rcases Nat.eq_zero_or_pos j with h0 | h0
    · subst h0
      go_wp2_with fail
      go_ret
      exact ⟨Ao, m, co, rfl, hown, hb⟩
    · obtain ⟨k, rfl⟩ : ∃ k, j = k + 1 := ⟨j - 1, by omega⟩
      have ek : (((k + 1 : Nat) : Int) - 1) = (k : Int) := by omega
      rw [ek]
      clear ek
      obtain ⟨x, hx⟩ := get_some (xs := ds) (k := k) (by rw [HL.out]; omega)
      have hxb : 0 ≤ x ∧ x < b := by obtain ⟨hk', rfl⟩ := List.getElem?_eq_some_iff.1 hx; exact HD.out _ (List.getElem_mem hk')
      obtain ⟨hx0, hx1⟩ := hxb
      obtain ⟨bb, off, rfl, hbk, hcx⟩ := hr.at_ (ints_get hx)
      have hcx1 := (hb.cell (p := ⟨bb, off + k, none⟩) hbk).trans hcx
      have HX := Lib.hid hx
      have HB := Lib.hid hb
      have HO := Lib.hid hown
      have HST := Lib.hid (joinVal_step (b := b.toNat) hx)
      have HLE : Hid ((limbs (joinVal b.toNat (ds.drop k))).length ≤ n) := Lib.hid (Nat.le_trans (joinVal_len b.toNat (by omega) (ds.drop k) (fun d hd => by have := HD.out d (List.mem_of_mem_drop hd); omega)) (by rw [List.length_drop, HL.out]; omega))
      clear hx hcx hb hown
      generalize joinVal b.toNat (ds.drop (k + 1)) = N at HO HST
      have hkn : k < n := by omega
      have hbr : bb < wr.heap.size := Nat.lt_of_lt_of_le hbk HB.out.size
      go_wp2_with fail
      go_region_held3 (fun w' => w'.cell? ⟨bb, off + k, none⟩ = some (.int .i64 x)) (assumption)
        (first
          | (go_at_call 57; refine (naturalOf_any _ _ (by omega) (by omega)).mono ?_; rintro e w1 ⟨A1, n1, c1, rfl, ho1, hb1⟩; (try replace hb1 := below_undrew hb1); have hcx1 := (hb1.cell (p := ⟨bb, off + k, none⟩) hbr).trans hcx1; have hbr := Nat.lt_of_lt_of_le hbr hb1.size)
          | (go_at_call 56; refine (multiply_any _ _ _ _ N ((own_rd HO.out).below hb1 (Nat.le_refl _)) (by omega) _ _ _ b.toNat (own_rd ho1) (by have := own_small ho1 (by omega); omega)).mono ?_; rintro e w2 ⟨A2, n2, c2, rfl, ho2, hb2⟩; have hcx1 := (hb2.cell (p := ⟨bb, off + k, none⟩) hbr).trans hcx1; have hbr := Nat.lt_of_lt_of_le hbr hb2.size; have hl2 := own_mul_len ho2 HO.out ho1; have hl1 := own_small ho1 (by omega); have HBB := Lib.hid (hb1.trans (hb2.mono hb1.size)))
          | (go_at_call 55; refine (add_any _ _ _ _ (N * b.toNat) ((own_rd ho2).below hb1 (Nat.le_refl _)) (by omega) _ _ _ x.toNat (own_rd ho1) (by have := own_small ho1 (by omega); omega)).mono ?_; rintro e w3 ⟨A3, n3, c3, rfl, ho3, hb3⟩; have hcx1 := (hb3.cell (p := ⟨bb, off + k, none⟩) hbr).trans hcx1; have HB3 := Lib.hid (HBB.out.trans ((hb1.trans (hb3.mono hb1.size)).mono HBB.out.size))))
      have HBF : Hid (Below w.heap.size w w3) := Lib.hid (HB.out.trans (HB3.out.mono HB.out.size))
      have HO3 := Lib.hid (own_base ho3 (Nat.le_trans HB.out.size (Nat.le_trans HBB.out.size hb1.size)))
      have hn3 : n3 ≤ n := by have h1 := own_limb_len ho3; rw [← HST.out] at h1; have := HLE.out; omega
      go_wp2_with fail
      go_roundw
      case rel => exact ⟨k, n3, rfl, by omega, by omega, by rw [HST.out]; exact HO3.out, HBF.out⟩
      case measure => simp only [intOf]; omega

set_option maxHeartbeats 400000 in
theorem limited_any (w : World) (base : Nat) (A : Option Addr) (n c : Nat) (V : Nat) (ho : w.ownsRow base 2 1 (.slice A n c) n (ints (limbs V))) (hn : n ≤ 1099511627776) :
    Calls Try.prog 60 #[.slice A n c] w fun en w' => (∃ A' n' c', en = .returned (.tuple #[.slice A' n' c', .int .i64 (fitCode V)]) ∧ w.ownsRow base 2 1 (.slice A' n' c') n' (ints (fitOr V))) ∧ w = w' := by
  have hl := own_limb_len ho
  by_cases h : n ≤ 40
  · have hf := fit_yes (V := V) (by omega)
    have HF := Lib.hid hf
    clear hf hl
    go_enter Try.func60, Try.ntmps60
    go_wp2_with fail
    go_ret2
    rw [HF.out.1, HF.out.2.2]
    exact ⟨⟨A, n, c, rfl, ho⟩, rfl⟩
  · have hf := fit_no (V := V) (by omega)
    have HF := Lib.hid hf
    clear hf hl
    go_enter Try.func60, Try.ntmps60
    go_wp2_with fail
    go_ret2
    rw [HF.out.1, HF.out.2.2]
    exact ⟨⟨none, 0, 0, rfl, own_nil _ _ _⟩, rfl⟩
end Go.Proofs.Ytdpkcnjoklnoeaa
