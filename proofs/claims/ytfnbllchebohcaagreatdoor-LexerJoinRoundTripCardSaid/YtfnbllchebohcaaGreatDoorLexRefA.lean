/- What the document's IsMark, number and text return. -/
import Derived.Test.YtfnbllchebohcaaGreatDoorLexCont
import Derived.Test.YtfnbllchebohcaaGreatDoorLexOne
namespace Go.Proofs.YtfnbllchebohcaaGreatDoor.Lx
open Go.RowKit Go.Sort Go.Lib Go.Shelf Fx

theorem isMark_any (s : ByteArray) (w : World) : Calls Tryz.prog 44 #[.string s] w fun e w' => e = .returned (.bool (isM s.data.toList)) ∧ w = w' := by
  go_enter Tryz.func44, Tryz.ntmps44
  go_wp2
  all_goals
    go_ret
    exact ⟨ret_bool (by rw [← ByteArray.toList_eq]; unfold isM; simp_all), rfl⟩

theorem extract_one (s : ByteArray) (k : Nat) (hk : k < s.size) : (s.extract k (k + 1)).data.toList = [s[k]] := by
  have h : k < s.data.toList.length := by rw [← size_len]; exact hk
  rw [ByteArray.data_extract, Array.toList_extract, List.extract_eq_take_drop, show k + 1 - k = 1 by omega, List.drop_eq_getElem_cons h]
  rfl
theorem app_one (o s : ByteArray) (k : Nat) (hk : k < s.size) : (o ++ s.extract k (k + 1)).data.toList = o.data.toList ++ [s[k]] := by
  rw [data_app, extract_one s k hk]
theorem app_size (o s : ByteArray) (k : Nat) (hk : k < s.size) : (o ++ s.extract k (k + 1)).size = o.size + 1 := by
  rw [size_len, app_one o s k hk, size_len]; simp

theorem slice_one (s : ByteArray) (k : Nat) (a b : Int) (ha : a = k) (hb : b = (k : Int) + 1) (hk : k < s.size) (W : World) : (Instr.slice 9 (.string s) (some (.int .i64 a)) (some (.int .i64 b)) none).run Tryz.prog W = .ok (.string (s.extract k (k + 1))) W := by
  subst ha; subst hb
  rw [run_slice_string W _ _ .i64 .i64 k ((k : Int) + 1) Tryz.underlying9 (by omega) (by omega) (by omega)]
  rw [Int.toNat_natCast, show ((k : Int) + 1).toNat = k + 1 by omega]

def textV (T : List UInt8 × Nat × Int) : Value := .tuple #[.string ⟨T.1.toArray⟩, .int .i64 (if T.2.2 = 0 then (T.2.1 : Int) + 1 else T.2.1), .int .i64 T.2.2]

theorem textV_ok (o : ByteArray) (i : Nat) : textV (o.data.toList, i + 1, 0) = .tuple #[.string o, .int .i64 ((i : Int) + 1 + 1), .int .i64 0] := by
  unfold textV; cases o; simp

end Go.Proofs.YtfnbllchebohcaaGreatDoor.Lx
