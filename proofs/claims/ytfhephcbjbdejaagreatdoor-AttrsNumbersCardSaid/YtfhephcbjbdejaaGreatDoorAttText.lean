/- The ports of a text as plain functions: what the program's Ports and the document's return; no program in sight. -/
import Derived.Test.YtfhephcbjbdejaaGreatDoorLexText
import Derived.Lib.Split
import Derived.Lib.SplitLaws
import Derived.Lib.CutLaws
import Derived.Lib.SlicesS
import Derived.Lib.Hide
namespace Go.Proofs.YtfhephcbjbdejaaGreatDoor.At
open Go.RowKit Go.Lib Fx Lx

abbrev Prt := ByteArray × Int
def sidesL : List ByteArray := [⟨#[116, 111, 112]⟩, ⟨#[114, 105, 103, 104, 116]⟩, ⟨#[98, 111, 116, 116, 111, 109]⟩, ⟨#[108, 101, 102, 116]⟩]
/-- The number of a side, -1 for none. -/
def sideN (s : ByteArray) : Int := Lib.idxOfS sidesL s
/-- The place of the first blank, -1 for none. -/
def gapN (s : ByteArray) : Int := Lib.index s.data.toList [32]
def nmOf (p : ByteArray) : ByteArray := p.extract 0 (gapN p).toNat
def wdOf (p : ByteArray) : ByteArray := p.extract ((gapN p).toNat + 1) p.size
def hasN (out : List Prt) (n : ByteArray) : Bool := out.any (fun q => decide (q.1 = n))
def portsGo : List ByteArray → List Prt → List Prt × Int
  | [], out => (out, 0)
  | p :: r, out =>
    if gapN p < 0 then ([], 4)
    else if sideN (wdOf p) < 0 then ([], 4)
    else if nameB (nmOf p).data.toList = false then ([], 5)
    else if hasN out (nmOf p) = true then ([], 6)
    else if out.length = 8 then ([], 2)
    else portsGo r (out ++ [(nmOf p, sideN (wdOf p))])
def comma : ByteArray := ⟨#[44, 32]⟩
def parts (s : ByteArray) : List ByteArray := Lib.splitB comma 0 (Lib.countB s comma) s
def portsV (s : ByteArray) : List Prt × Int := if s.size = 0 then ([], 0) else portsGo (parts s) []

theorem portsGo_ways (p : ByteArray) (r : List ByteArray) (out : List Prt) (R : List Prt × Int) (h : R = portsGo (p :: r) out) :
    (gapN p < 0 ∧ Hid (R = ([], 4))) ∨
    (0 ≤ gapN p ∧ sideN (wdOf p) < 0 ∧ Hid (R = ([], 4))) ∨
    (0 ≤ gapN p ∧ 0 ≤ sideN (wdOf p) ∧ nameB (nmOf p).data.toList = false ∧ Hid (R = ([], 5))) ∨
    (0 ≤ gapN p ∧ 0 ≤ sideN (wdOf p) ∧ nameB (nmOf p).data.toList = true ∧ hasN out (nmOf p) = true ∧ Hid (R = ([], 6))) ∨
    (0 ≤ gapN p ∧ 0 ≤ sideN (wdOf p) ∧ nameB (nmOf p).data.toList = true ∧ hasN out (nmOf p) = false ∧ out.length = 8 ∧ Hid (R = ([], 2))) ∨
    (0 ≤ gapN p ∧ 0 ≤ sideN (wdOf p) ∧ nameB (nmOf p).data.toList = true ∧ hasN out (nmOf p) = false ∧ out.length ≠ 8 ∧ Hid (R = portsGo r (out ++ [(nmOf p, sideN (wdOf p))]))) := by
  unfold portsGo at h
  by_cases h1 : gapN p < 0
  · rw [if_pos h1] at h; exact .inl ⟨h1, Lib.hid h⟩
  rw [if_neg h1] at h
  have k1 : 0 ≤ gapN p := by omega
  by_cases h2 : sideN (wdOf p) < 0
  · rw [if_pos h2] at h; exact .inr (.inl ⟨k1, h2, Lib.hid h⟩)
  rw [if_neg h2] at h
  have k2 : 0 ≤ sideN (wdOf p) := by omega
  cases h3 : nameB (nmOf p).data.toList
  · rw [if_pos h3] at h; exact .inr (.inr (.inl ⟨k1, k2, rfl, Lib.hid h⟩))
  rw [if_neg (by rw [h3]; decide)] at h
  cases h4 : hasN out (nmOf p)
  · rw [if_neg (by rw [h4]; decide)] at h
    by_cases h5 : out.length = 8
    · rw [if_pos h5] at h; exact .inr (.inr (.inr (.inr (.inl ⟨k1, k2, rfl, rfl, h5, Lib.hid h⟩))))
    · rw [if_neg h5] at h; exact .inr (.inr (.inr (.inr (.inr ⟨k1, k2, rfl, rfl, h5, Lib.hid h⟩))))
  · rw [if_pos h4] at h; exact .inr (.inr (.inr (.inl ⟨k1, k2, rfl, rfl, Lib.hid h⟩)))
/-- Cut at the blank. -/
theorem cut_gap (p : ByteArray) : (0 ≤ gapN p → ((⟨(Lib.cut p.data.toList [32]).1.toArray⟩ : ByteArray) = nmOf p ∧ (⟨(Lib.cut p.data.toList [32]).2.1.toArray⟩ : ByteArray) = wdOf p ∧ (Lib.cut p.data.toList [32]).2.2 = true)) ∧
    (gapN p < 0 → ((⟨(Lib.cut p.data.toList [32]).2.1.toArray⟩ : ByteArray) = ⟨#[]⟩ ∧ (Lib.cut p.data.toList [32]).2.2 = false)) := by
  unfold Lib.cut nmOf wdOf gapN
  constructor
  · intro h
    rw [if_pos h]
    refine ⟨?_, ?_, rfl⟩
    · rw [← extract_from_zero]
    · rw [← extract_from]; rfl
  · intro h
    rw [if_neg (by omega)]
    exact ⟨rfl, rfl⟩
theorem sideN_empty : sideN ⟨#[]⟩ = -1 := by decide
theorem portsGo_len : ∀ (l : List ByteArray) (out : List Prt), out.length ≤ 8 → (portsGo l out).1.length ≤ 8
  | [], out, h => h
  | p :: r, out, h => by
    rcases portsGo_ways p r out _ rfl with ⟨_, e⟩ | ⟨_, _, e⟩ | ⟨_, _, _, e⟩ | ⟨_, _, _, _, e⟩ | ⟨_, _, _, _, _, e⟩ | ⟨_, _, _, _, h8, e⟩
    all_goals rw [e.out]
    all_goals first
      | simp; done
      | (refine portsGo_len r _ ?_; simp; omega)
end Go.Proofs.YtfhephcbjbdejaaGreatDoor.At
