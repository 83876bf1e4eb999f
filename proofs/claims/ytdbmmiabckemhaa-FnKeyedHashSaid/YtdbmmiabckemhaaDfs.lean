/- A key out of a text, of the program and of the reference. -/
import Derived.Test.YtdbmmiabckemhaaKeyed
import Derived.Test.YtdbmmiabckemhaaUnit
import Derived.Laws.IdiomStrings
namespace Go.Proofs.Ytdbmmiabckemhaa
open Go.RowKit
set_option linter.unusedVariables false

/-- The bytes of a text as numbers. -/
def bytesI (s : ByteArray) : List Int := s.data.toList.map fun b => (b.toNat : Int)
theorem bytesI_length (s : ByteArray) : (bytesI s).length = s.size := by
  unfold bytesI
  rw [List.length_map, Array.length_toList]
  rfl
theorem bytesI_wf (s : ByteArray) : Wf .u8 (bytesI s) := by
  intro n hn
  obtain ⟨b, _, rfl⟩ := List.mem_map.1 hn
  have := b.toNat_lt
  exact WalkArith.wf_u8 ⟨by omega, by omega⟩
/-- What '[]byte(s)' laid reads as the text's bytes. -/
theorem Rd.text {w : World} {s : ByteArray} {cap : Nat} {e : TypeId} {fr : Nat × Nat} (h1 : s.size ≤ cap) (h2 : cap ≤ maxLen) :
    Rd .u8 (w.drew.alloc (.cells (bytesRow s cap) e fr)) 0 (w.heap.size + 1) (.slice (some ⟨w.heap.size, 0, none⟩) s.size cap) (bytesI s) := by
  refine ⟨_, _, by rw [bytesI_length], by rw [bytesI_length]; exact h1, h2, fun _ => ⟨_, _, rfl, Nat.zero_le _, by omega, fun i u hu => ?_⟩⟩
  have hb := heap_alloc_new w.drew (.cells (bytesRow s cap) e fr)
  have hi : i < s.data.size := by
    have := (List.getElem?_eq_some_iff.1 hu).1
    rw [bytesI_length] at this
    exact this
  rw [Nat.zero_add]
  refine (cell_of_row _ _ i _ e fr hb).trans ?_
  unfold bytesRow
  rw [Array.getElem?_append_left (by rw [Array.size_map]; exact hi), Array.getElem?_map, Array.getElem?_eq_getElem hi]
  unfold bytesI at hu
  rw [List.getElem?_map, Array.getElem?_toList, Array.getElem?_eq_getElem hi] at hu
  simp only [Option.map_some, Option.some.injEq] at hu
  subst hu
  rfl
/-- At least one. -/
def one1 (n : Int) : Int := if n = 0 then 1 else n
def dfsI (key : Int) (s : ByteArray) : Int := one1 (keyed key ((s.size : Int) :: bytesI s))
theorem dfs_bd (key : Int) (s : ByteArray) : 1 ≤ dfsI key s ∧ dfsI key s ≤ 2147483646 := by
  have := keyed_bd key ((s.size : Int) :: bytesI s)
  unfold dfsI one1
  split <;> omega

theorem implOr1 (n : Int) (w : World) (h : 0 ≤ n) : Calls Try.prog 76 #[.int .i64 n] w fun e w' => e = .returned (.int .i64 (one1 n)) ∧ w = w' := by
  by_cases h0 : n = 0
  · have hb : (n == 0) = true := by simpa using h0
    have HE : Hid (one1 n = 1) := if_pos h0
    clear h0
    go_enter Try.func76, Try.ntmps76
    go_wp2
    go_ret
    exact ⟨ret_int HE.out.symm, rfl⟩
  · have hb : (n == 0) = false := by simpa using h0
    have HE : Hid (one1 n = n) := if_neg h0
    clear h0
    go_enter Try.func76, Try.ntmps76
    go_wp2
    go_ret
    exact ⟨ret_int HE.out.symm, rfl⟩
set_option maxRecDepth 100000 in
theorem implDfs (key : Int) (s : ByteArray) (w : World) (hk : In64 key) (hs : s.size ≤ 1048576) :
    Calls Try.prog 56 #[.int .i64 key, .string s] w fun e w' => e = .returned (.int .i64 (dfsI key s)) ∧ Below w.heap.size w w' := by
  have k1 := run_bytes_of_string (P := Try.prog) w 9 29 5 s Try.underlying9 Try.underlying29 Try.underlying5
  have hG1 : s.size ≤ grownCap w s.size 0 5 := grownCap_ge w _ _ _
  have hG2 : grownCap w s.size 0 5 ≤ maxLen := grownCap_le_maxLen w _ _ _ (by unfold maxLen; omega)
  generalize grownCap w s.size 0 5 = G at k1 hG1 hG2
  have r1 := Rd.text (w := w) (s := s) (cap := G) (e := 5) (fr := ((bytesRow s G).size, (bytesRow s G).size + 1)) hG1 hG2
  obtain ⟨w1, hw1⟩ : ∃ w1, w1 = w.drew.alloc (.cells (bytesRow s G) 5 ((bytesRow s G).size, (bytesRow s G).size + 1)) := ⟨_, rfl⟩
  have B1 : Below w.heap.size w w1 := by rw [hw1]; exact ((Below.refl _ w).drew).alloc (Nat.le_refl _) _
  have s1 : w1.heap.size = w.heap.size + 1 := by rw [hw1]; simp
  rw [← hw1] at k1 r1
  clear hw1 hG1 hG2
  have hbl := bytesI_length s
  have HF := Lib.hid (bytesI_wf s)
  go_enter Try.func56, Try.ntmps56
  go_wp2_with fail
  refine (implB2I _ (bytesI s) w1 _ _ r1 HF.out (by omega) (by omega)).mono ?_
  rintro e w2 ⟨v2, rfl, o2, bel2⟩
  rw [hbl] at o2
  have s2 := bel2.size
  have hWf : Hid (Wf .i64 ((s.size : Int) :: bytesI s)) := Wf.cons (wf64 (by unfold In64; omega)) (fun n hn => wf64 (by have := bd8 (HF.out n hn); unfold In64; omega))
  have hln : ((s.size : Int) :: bytesI s).length ≤ 1048577 := by rw [List.length_cons, hbl]; omega
  have B2 := B1.trans (bel2.mono (by omega))
  go_wp2_with fail
  refine (implKeyed key _ _ w2 _ _ o2.rd hWf.out hk (Nat.le_refl _) (by omega)).mono ?_
  rintro e w3 ⟨rfl, bel3⟩
  have B3 := B2.trans (bel3.mono (by omega))
  have HK := keyed_bd key ((s.size : Int) :: bytesI s)
  go_wp2_with fail
  refine (implOr1 _ w3 HK.1).mono ?_
  rintro e w' ⟨rfl, rfl⟩
  go_wp2_with fail
  go_ret
  exact ⟨rfl, B3⟩
theorem implValid_yes (n : Int) (w : World) (h : 1 ≤ n ∧ n ≤ 2147483646) : Calls Try.prog 55 #[.int .i64 n] w fun e w' => e = .returned (.bool true) ∧ w = w' := by
  obtain ⟨h1, h2⟩ := h
  go_enter Try.func55, Try.ntmps55
  go_wp2_with fail
  refine (inRange_yes _ _ _ _ h1 h2).mono ?_
  rintro e w' ⟨rfl, rfl⟩
  go_wp2_with fail
  go_ret
  exact ⟨rfl, rfl⟩
end Go.Proofs.Ytdbmmiabckemhaa
