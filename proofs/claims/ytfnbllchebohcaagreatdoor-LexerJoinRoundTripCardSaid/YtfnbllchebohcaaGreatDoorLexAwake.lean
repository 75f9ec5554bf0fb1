/- The examples of the chapter: awake returns true; and the walk of LexerNames. -/
import Derived.Test.YtfnbllchebohcaaGreatDoorLexTokW
namespace Go.Proofs.YtfnbllchebohcaaGreatDoor.Lx
open Go.RowKit Go.Sort Go.Lib Go.Shelf Fx

theorem name1 : nameB [110, 111, 100, 101, 95, 49] = true := by decide
theorem name2 : nameB [110, 111, 100, 101] = false := by decide
def ex1 : List Tok := [⟨1, [120], 0, 1⟩, ⟨5, [61], 0, 1⟩, ⟨3, [], -1500, 1⟩, ⟨5, [59], 0, 1⟩]
theorem tok1 : tokenize [120, 61, 45, 49, 46, 53, 59] = (ex1, 0, 0) := by decide +kernel

set_option maxHeartbeats 4000000 in
set_option maxRecDepth 1000000 in
theorem awake_any (w : World) (he : Env w) :
    Calls Tryz.prog 8 #[] w fun e w' => e = .returned (.bool true) ∧ Ext w w' := by
  have h1 := tokenize_any ⟨#[120, 61, 45, 49, 46, 53, 59]⟩ w (by decide) he
  rw [show (⟨#[120, 61, 45, 49, 46, 53, 59]⟩ : ByteArray).data.toList = [120, 61, 45, 49, 46, 53, 59] from rfl, tok1] at h1
  have H1 := Lib.hid h1
  have h2 := isName_any ⟨#[110, 111, 100, 101, 95, 49]⟩ (by decide)
  rw [show (⟨#[110, 111, 100, 101, 95, 49]⟩ : ByteArray).data.toList = [110, 111, 100, 101, 95, 49] from rfl, name1] at h2
  have H2 := Lib.hid h2
  have h3 := isName_any ⟨#[110, 111, 100, 101]⟩ (by decide)
  rw [show (⟨#[110, 111, 100, 101]⟩ : ByteArray).data.toList = [110, 111, 100, 101] from rfl, name2] at h3
  have H3 := Lib.hid h3
  clear h1 h2 h3 he
  go_enter Tryz.func8, Tryz.ntmps8
  go_wp2_with fail
  refine H1.out.mono ?_
  rintro e w1 ⟨⟨v, rfl, hown⟩, x1⟩
  obtain ⟨g, cap, rfl⟩ : ∃ g cap, v = .slice (some ⟨g, 0, none⟩) 4 cap := by
    rcases hown.2 with ⟨_, h0⟩ | ⟨g, cap, cur, hv, _⟩
    · simp [ex1] at h0
    · exact ⟨g, cap, hv⟩
  have hc := hown.cells (g := g) rfl
  have hc' : ∀ j u, (toksC ex1)[j]? = some u → w1.cell? ⟨g, j, none⟩ = some u := fun j u h => by
    have := hc j u h
    have e : (⟨g, 0, none⟩ : Addr).add j = ⟨g, j, none⟩ := by simp [Addr.add]; exact fun h => h.symm
    rw [e] at this; exact this
  have c0 := hc' 0 _ rfl; have c1 := hc' 1 _ rfl; have c2 := hc' 2 _ rfl; have c3 := hc' 3 _ rfl
  have c8 := hc' 8 _ rfl; have c9 := hc' 9 _ rfl; have c10 := hc' 10 _ rfl; have c11 := hc' 11 _ rfl
  clear hc hc' hown
  go_wp2_with fail
  refine (H2.out _).mono ?_
  rintro e w2 ⟨rfl, rfl⟩
  go_wp2_with fail
  refine (H3.out _).mono ?_
  rintro e w2 ⟨rfl, rfl⟩
  go_wp2
  go_ret
  exact ⟨rfl, x1⟩

theorem name_kw (l : List UInt8) : (nameB l && kw l) = false := by unfold nameB; cases kw l <;> simp

end Go.Proofs.YtfnbllchebohcaaGreatDoor.Lx
