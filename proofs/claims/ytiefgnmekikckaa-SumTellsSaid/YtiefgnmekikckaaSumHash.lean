/-
  The walks of sum.Hash and of the law SumHash.
-/
import Derived.Test.YtiefgnmekikckaaKnown2
set_option linter.unusedVariables false
set_option linter.unusedSimpArgs false
namespace Go.Proofs.Ytiefgnmekikckaa
open Go.RowKit

theorem and255 (c : UInt32) : bits .and .u32 (un32 c) 255 = un32 (c &&& 255) := and32 c 255
def hashOf (s : ByteArray) : Int := un32 (crcOf s.data.toList &&& 255)
theorem and255_nat (c : UInt32) : un32 (c &&& 255) = un32 c % 256 := by
  unfold un32
  rw [UInt32.toNat_and]
  have h : (255 : UInt32).toNat = 2 ^ 8 - 1 := rfl
  rw [h, Nat.and_two_pow_sub_one_eq_mod]
  omega

section
attribute [local go_sem] and255 wrap64_un32
set_option maxHeartbeats 2000000 in
theorem hash_any (s : ByteArray) (w : World) (hs : s.size ≤ 140737488351232) :
    Calls Try.prog 19 #[.string s] w fun e w' => e = .returned (.int .i64 (hashOf s)) ∧ Below w.heap.size w w' := by
  have b0 := (un32_range (crcOf s.data.toList &&& 255)).1
  have b1 := (un32_range (crcOf s.data.toList &&& 255)).2
  have kb := fun W => Lib.run_convert_string_bytes (P := Try.prog) W 9 22 5 s Try.underlying9 Try.underlying22 Try.underlying5
  go_enter Try.func19, Try.ntmps19
  go_wp2_with fail
  refine (crc_any _ s.size _ s.data.toList _ (data_length s) (by omega) (bytes_RB _ _ _)).mono ?_
  rintro e w' ⟨rfl, rfl⟩
  go_wp2_with fail
  go_ret
  exact ⟨rfl, bytes_below (Below.refl _ _) (Nat.le_refl _) _ _⟩
end

theorem hash_facts (s : ByteArray) : 0 ≤ hashOf s ∧ hashOf s < 256 ∧ hashOf s = un32 (crcOf s.data.toList) % 256 := by
  unfold hashOf
  rw [and255_nat]
  omega

def hexS (s : ByteArray) : ByteArray := ⟨(hexOf s.data.toList).toArray⟩
theorem hexS_size (s : ByteArray) : (hexS s).size = 2 * s.size := by
  show (hexOf s.data.toList).toArray.size = _
  rw [List.size_toArray, hexOf_length, data_length]
theorem hexS_def (s : ByteArray) : (⟨(hexOf s.data.toList).toArray⟩ : ByteArray) = hexS s := rfl
theorem hexS_append (s t : ByteArray) : (⟨(hexOf (s ++ t).data.toList).toArray⟩ : ByteArray) = hexS s ++ hexS t := by
  unfold hexS
  apply ByteArray.ext
  simp [hexOf_append]

set_option maxHeartbeats 4000000 in
theorem sumHash_any (s t : ByteArray) (w : World) :
    Calls Try.prog 4 #[.string s, .string t] w fun e w' => e = .returned (.bool true) ∧ Below w.heap.size w w' := by
  have kb := fun s W => Lib.run_convert_string_bytes (P := Try.prog) W 9 22 5 s Try.underlying9 Try.underlying22 Try.underlying5
  go_enter Try.func4, Try.ntmps4
  go_upto_if 8 with fail
  go_cut [0] (fun s0 wx => ∃ s1 : ByteArray, s1.size ≤ 1000 ∧ s0 = .string s1 ∧ w = wx)
  case first =>
    go_wp2_with fail
    · go_meet
      exact ⟨_, by simp; omega, rfl, rfl⟩
    · go_meet
      exact ⟨_, by omega, rfl, rfl⟩
  case rest =>
    obtain ⟨s1, hs1, rfl, rfl⟩ := hcut
    go_upto_if 13 with fail
    go_cut [1] (fun s0 wx => ∃ s1 : ByteArray, s1.size ≤ 1000 ∧ s0 = .string s1 ∧ w = wx)
    case first =>
      go_wp2_with fail
      · go_meet
        exact ⟨_, by simp; omega, rfl, rfl⟩
      · go_meet
        exact ⟨_, by omega, rfl, rfl⟩
    case rest =>
      obtain ⟨t1, ht1, rfl, rfl⟩ := hcut
      go_wp2_with fail
      refine (hash_any s1 _ (by omega)).mono ?_
      rintro e w1 ⟨rfl, hb1⟩
      obtain ⟨h0, h1, h2⟩ := hash_facts s1
      have h3 : (hashOf s1 == un32 (crcOf s1.data.toList) % 256) = true := beq_iff_eq.2 h2
      have b0 := (un32_range (crcOf s1.data.toList)).1
      have b1 := (un32_range (crcOf s1.data.toList)).2
      have H2 := Lib.hid h2
      clear h2
      have HB1 := Lib.hid hb1
      clear hb1
      go_wp2_with fail
      refine (crc_any _ s1.size _ s1.data.toList _ (data_length s1) (by omega) (bytes_RB _ _ _)).mono ?_
      rintro e w2 ⟨rfl, rfl⟩
      go_wp2_with fail
      refine (hex_any _ (s1.size + t1.size) _ (s1 ++ t1).data.toList _ (by simp) (by omega) (bytes_RB _ _ _)).mono ?_
      rintro e w3 ⟨rfl, hb3⟩
      have HB3 := Lib.hid hb3
      clear hb3
      rw [hexS_append]
      generalize hz : hexS s1 ++ hexS t1 = z0
      have hA := hexS_size s1
      have hB := hexS_size t1
      have hA1 : (hexS s1).size ≤ 8388608 := by omega
      have hB1 : (hexS t1).size ≤ 8388608 := by omega
      clear hA hB
      go_wp2_with fail
      refine (hex_any _ s1.size _ s1.data.toList _ (data_length s1) (by omega) (bytes_RB _ _ _)).mono ?_
      rintro e w4 ⟨rfl, hb4⟩
      have HB4 := Lib.hid hb4
      clear hb4
      rw [hexS_def]
      go_wp2_with fail
      refine (hex_any _ t1.size _ t1.data.toList _ (data_length t1) (by omega) (bytes_RB _ _ _)).mono ?_
      rintro e w5 ⟨rfl, hb5⟩
      have HB5 := Lib.hid hb5
      clear hb5
      rw [hexS_def]
      go_wp2_with fail
      refine (known2_any _).mono ?_
      rintro e w6 ⟨rfl, hb6⟩
      have HB6 := Lib.hid hb6
      clear hb6
      go_wp2_with fail
      go_ret
      refine ⟨rfl, ?_⟩
      have g1 := HB1.out
      have g2 := bytes_below (bytes_below g1 g1.size 5 s1) (by rw [Lib.bytesWorld_size]; have := g1.size; omega) 5 (s1 ++ t1)
      have g3 := below_below g2 g2.size HB3.out
      have g4 := bytes_below g3 g3.size 5 s1
      have g5 := below_below g4 g4.size HB4.out
      have g6 := bytes_below g5 g5.size 5 t1
      have g7 := below_below g6 g6.size HB5.out
      exact below_below g7 g7.size HB6.out
end Go.Proofs.Ytiefgnmekikckaa
