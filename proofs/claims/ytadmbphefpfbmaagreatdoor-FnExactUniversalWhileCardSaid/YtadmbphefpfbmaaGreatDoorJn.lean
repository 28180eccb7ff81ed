/- strings.Join: the library's contract laid. Written by mk_jn.py. -/
import Derived.Test.YtadmbphefpfbmaaGreatDoorPqH
import Derived.Shelf.Strings.OnBuilder
namespace Go.Proofs.YtadmbphefpfbmaaGreatDoor
open Go.RowKit Go.Shelf
def joinRen : Ren where
  f := fun x => match x with | 156 => 178 | 165 => 213 | 166 => 36 | 169 => 38 | 240 => 69 | 241 => 241 | 276 => 107 | 277 => 257 | n => n
  t := fun x => match x with | 31 => 47 | 9 => 9 | 3 => 3 | 4 => 4 | 0 => 0 | 20 => 20 | 72 => 54 | 76 => 57 | 70 => 51 | 37 => 52 | 75 => 56 | 127 => 107 | 164 => 152 | 5 => 5 | 80 => 60 | n => n
  g := fun n => n
theorem joinLaid : Lays.n156 Tryz.prog joinRen where
  mixed := by kernel_rfl
  f156 := Tryz.func178.trans (by kernel_rfl)
  f165 := Tryz.func213.trans (by kernel_rfl)
  f166 := Tryz.func36.trans (by kernel_rfl)
  f169 := Tryz.func38.trans (by kernel_rfl)
  f240 := Tryz.func69.trans (by kernel_rfl)
  f241 := Tryz.func241.trans (by kernel_rfl)
  f276 := Tryz.func107.trans (by kernel_rfl)
  f277 := Tryz.func257.trans (by kernel_rfl)
  t0 := Tryz.underlying0
  a0 := Tryz.isAgg0
  z0 := Tryz.sizeOf0
  v0 := Tryz.zeroValue0
  t3 := Tryz.underlying3
  a3 := Tryz.isAgg3
  z3 := Tryz.sizeOf3
  v3 := Tryz.zeroValue3
  t4 := Tryz.underlying4
  a4 := Tryz.isAgg4
  z4 := Tryz.sizeOf4
  v4 := Tryz.zeroValue4
  t9 := Tryz.underlying9
  a9 := Tryz.isAgg9
  z9 := Tryz.sizeOf9
  v9 := Tryz.zeroValue9
  t20 := Tryz.underlying20
  a20 := Tryz.isAgg20
  z20 := Tryz.sizeOf20
  v20 := Tryz.zeroValue20
  t31 := Tryz.underlying47
  a31 := Tryz.isAgg47
  z31 := Tryz.sizeOf47
  v31 := Tryz.zeroValue47
  t37 := Tryz.underlying52
  a37 := Tryz.isAgg52
  z37 := Tryz.sizeOf52
  v37 := Tryz.zeroValue52
  t70 := Tryz.underlying51
  a70 := Tryz.isAgg51
  z70 := Tryz.sizeOf51
  v70 := Tryz.zeroValue51
  t72 := Tryz.underlying54
  a72 := Tryz.isAgg54
  z72 := Tryz.sizeOf54
  v72 := Tryz.zeroValue54
  t75 := Tryz.underlying56
  a75 := Tryz.isAgg56
  z75 := Tryz.sizeOf56
  v75 := Tryz.zeroValue56
  t76 := Tryz.underlying57
  a76 := Tryz.isAgg57
  z76 := Tryz.sizeOf57
  v76 := Tryz.zeroValue57
  t127 := Tryz.underlying107
  a127 := Tryz.isAgg107
  z127 := Tryz.sizeOf107
  v127 := Tryz.zeroValue107
  t164 := Tryz.underlying152
  a164 := Tryz.isAgg152
  z164 := Tryz.sizeOf152
  v164 := Tryz.zeroValue152
theorem joinExtra : Builder.Extra Tryz.prog joinRen where
  sizeBuilder := by kernel_rfl
  liesBuilder := by kernel_rfl
  t5 := Tryz.underlying5
  a5 := Tryz.isAgg5
  z5 := Tryz.sizeOf5
  v5 := Tryz.zeroValue5
  infoByte := by kernel_rfl
  cellsByte := by kernel_rfl
  sizeByte := by kernel_rfl
  neB5 := by decide
abbrev strB (ts : List ByteArray) : List Value := ts.map Value.string
theorem joinY_any (w : World) (A : Option Addr) (c : Nat) (ts : List ByteArray) (hr : Rd w A ts.length (strB ts)) (hn : ts.length ≤ 1000000) (hc : ts.length ≤ c) (hl : (joinP ts).size ≤ 1000000) :
    Calls Tryz.prog 178 #[.slice A ts.length c, .string ⟨#[59]⟩] w (RetV w (.string (joinP ts))) := by
  have hlen : (Lib.join (ts.map (·.data.toList)) [59]).length ≤ 140737488355328 := by
    have h1 : (joinP ts).size = (Lib.join (ts.map (·.data.toList)) [59]).length := by simp [joinP, ByteArray.size]
    omega
  cases ts with
  | nil =>
    refine (Any.strings_Join_none joinLaid joinExtra A c ⟨#[59]⟩ w).mono ?_
    rintro e w' ⟨rfl, rfl⟩
    exact ⟨rfl, Below.refl _ _⟩
  | cons t r =>
    obtain ⟨b, off, rfl, hb, hcell⟩ := hr.2 (by simp)
    refine (Any.strings_Join joinLaid joinExtra b off c (t :: r) ⟨#[59]⟩ w (fun j x hx => ?_) hb (by omega) hc hlen).mono ?_
    · exact hcell j (.string x) (by rw [List.getElem?_map, hx]; rfl)
    · rintro e w' ⟨rfl, h2⟩
      exact ⟨rfl, h2⟩
end Go.Proofs.YtadmbphefpfbmaaGreatDoor
