/- The laws of coder and decoder on strings (chapter 06), no program in sight. -/
import Derived.Test.YtfkiacbjiledcaaL06b
namespace Go.Proofs.Ytfkiacbjiledcaa.L06c
open Go.RowKit Go.Proofs.YtfkiacbjiledcaaW.PrintWords Go.Proofs.YtfkiacbjiledcaaW.PrintLast Go.Proofs.YtfkiacbjiledcaaW.PrintMore
open Go.Proofs.Ytfkiacbjiledcaa.K06 Go.Proofs.Ytfkiacbjiledcaa.L06 Go.Proofs.Ytfkiacbjiledcaa.L06b
set_option linter.unusedVariables false
set_option maxRecDepth 100000
def code (s : ByteArray) : ByteArray := strOfNums (encOut (bytesOf s))
theorem code_bytes (s : ByteArray) (hs : s.size ≤ 65536) : bytesOf (code s) = encOut (bytesOf s) :=
  bytesOf_strOf _ (encOut_ok (by rw [bytesOf_len]; exact hs) (bytesOf_range s)).1
theorem code_size (s : ByteArray) : (code s).size = (encOut (bytesOf s)).length := strOf_size _
theorem code_le (s : ByteArray) (hs : s.size ≤ 65536) : 8 * (code s).size ≤ 12 * (s.size + s.size / 3838 + 2) + 7 := by
  have := encOut_len (s := bytesOf s) (by rw [bytesOf_len]; exact hs) (bytesOf_range s)
  rw [bytesOf_len] at this
  rw [code_size]
  exact this
theorem enc_ok (s : ByteArray) (hs : s.size ≤ 43000) : encRes s = (code s, 0) := by
  have h := code_le s (by omega)
  unfold encRes
  rw [if_neg (by omega), if_neg (by rw [← code_size]; omega)]
  rfl
theorem dec_back (s more : ByteArray) (hs : s.size ≤ 43000) (hm : more.size ≤ 50) : decRes (code s ++ more) = (s, ((code s).size : Int), 0) := by
  have h := code_le s (by omega)
  have hl : (bytesOf s).length ≤ 65536 := by rw [bytesOf_len]; omega
  have he := dec_enc hl (bytesOf_range s) (bytesOf_range more)
  have hb : bytesOf (code s ++ more) = encOut (bytesOf s) ++ bytesOf more := by rw [bytesOf_append, code_bytes s (by omega)]
  unfold decRes
  rw [if_neg (by rw [ByteArray.size_append]; omega), hb, he]
  simp only
  rw [if_neg (by decide), if_neg (by omega), strOf_bytesOf, code_size]
theorem dec_exact (s : ByteArray) (hs : s.size ≤ 43000) : decRes (code s) = (s, ((code s).size : Int), 0) := by
  have := dec_back s ⟨#[]⟩ hs (by decide)
  rwa [show code s ++ ⟨#[]⟩ = code s from ByteArray.append_empty] at this
theorem dec_part (s : ByteArray) (i : Nat) (hs : s.size ≤ 43000) (hi : i < (code s).size) : decRes ((code s).extract 0 i) = (⟨#[]⟩, 0, 5) := by
  have h := code_le s (by omega)
  have hl : (bytesOf s).length ≤ 65536 := by rw [bytesOf_len]; omega
  have hp := dec_prefix hl (bytesOf_range s) i (by rw [← code_size]; exact hi)
  have hb : bytesOf ((code s).extract 0 i) = (encOut (bytesOf s)).take i := by rw [bytesOf_extract, code_bytes s (by omega)]; simp
  unfold decRes
  rw [if_neg (by rw [ByteArray.size_extract]; omega), hb, if_pos hp]
theorem code_pos (s : ByteArray) (hs : s.size ≤ 65536) : 2 ≤ (code s).size := by
  obtain ⟨_, p, hp, h⟩ := encOut_ok (s := bytesOf s) (by rw [bytesOf_len]; exact hs) (bytesOf_range s)
  obtain ⟨v, _, _⟩ := enc_val (s := bytesOf s) (by rw [bytesOf_len]; exact hs) (bytesOf_range s)
  have h1 := congrArg List.length h
  rw [obits_len, List.length_append, bw_len] at h1
  have h2 := Val_len v
  have h3 : 1 ≤ (encCodes (bytesOf s)).length := by unfold encCodes; simp
  rw [code_size]
  omega
end Go.Proofs.Ytfkiacbjiledcaa.L06c
