/- The bytes of a word: word.split and word.Bytes. -/
import Derived.Test.YtdlhnipkhlihjaaRows
import Derived.WalkKit
import Derived.ProofKit
import Derived.WalkSpells
import Derived.WalkLawsBesides
namespace Go.Proofs.Ytdlhnipkhlihjaa
open Go Go.ChangeShapes Go.WideShapes Go.ChangeAt Go.RowKit
/-- the bytes of a word -/
def bytesL (x : Nat) : List Int := [(x : Int) % 256, (x : Int) / 256 % 256, (x : Int) / 65536 % 256, (x : Int) / 16777216]
set_option maxHeartbeats 400000 in
theorem split_any (x : Nat) (w : World) (hx : x < 4294967296) :
    Calls Try.prog 43 #[.int .u32 x] w fun e w' => e = .returned (.agg #[.int .u8 ((x : Int) % 256), .int .u8 ((x : Int) / 256 % 256), .int .u8 ((x : Int) / 65536 % 256), .int .u8 ((x : Int) / 16777216)]) ∧
      w' = w.alloc (.cells #[.int .u8 ((x : Int) % 256), .int .u8 ((x : Int) / 256 % 256), .int .u8 ((x : Int) / 65536 % 256), .int .u8 ((x : Int) / 16777216)] 75) := by
  go_enter Try.func43, Try.ntmps43
  go_wp2
  exact bodyPost_ret (v := .agg #[.int .u8 ((x : Int) % 256), .int .u8 ((x : Int) / 256 % 256), .int .u8 ((x : Int) / 65536 % 256), .int .u8 ((x : Int) / 16777216)]) (by simp [results, Try.results43, go_sem]) rfl ⟨rfl, rfl⟩
/-- the block of a word's bytes -/
def bytesO (x : Nat) : Obj := .cells #[.int .u8 ((x : Int) % 256), .int .u8 ((x : Int) / 256 % 256), .int .u8 ((x : Int) / 65536 % 256), .int .u8 ((x : Int) / 16777216)] 75
set_option maxHeartbeats 400000 in
theorem bytes_any (x : Nat) (w : World) (hx : x < 4294967296) :
    Calls Try.prog 39 #[.int .u32 x] w fun e w' => e = .returned (.slice (some ⟨w.heap.size + 1, 0, none⟩) 4 4) ∧ w' = (w.alloc (bytesO x)).alloc (bytesO x) := by
  go_enter Try.func39, Try.ntmps39
  go_wp2_with (go_at_call 43; refine (split_any _ _ hx).mono ?_; rintro e w1 ⟨rfl, rfl⟩)
  go_ret
  exact ⟨rfl, rfl⟩
end Go.Proofs.Ytdlhnipkhlihjaa
