/- chapter 10: ChunkKept, both ways. -/
import Derived.Test.YtolgjknpifpmbaaLaw10KeptA
import Derived.Test.YtolgjknpifpmbaaLaw10KeptB
namespace Go.Proofs.Ytolgjknpifpmbaa
open Go.RowKit

theorem chunkKept_any (n : Int) (A : Option Addr) (nn cap : Nat) (ss : List ByteArray) (done : Bool) (cut : Int) (more : ByteArray) (w : World) (hl : ss.length = nn) (hr : SlR w w.heap.size 1 A nn (strVs ss))
    (hs : ∀ s ∈ ss, s.size ≤ 9223372036854775807) (hnc : nn ≤ cap) (hcm : cap ≤ 9223372036854775807) (hcut : cut ≤ 9223372036854775807) (hmore : more.size ≤ 9223372036854775807) :
    Calls Try.prog 3 #[.int .i64 n, .slice A nn cap, .bool done, .int .i64 cut, .string more] w fun e w' => e = .returned (.bool true) ∧ Below w.heap.size w w' := by
  cases done with
  | false => exact chunkKept_false n A nn cap ss cut more w hl hr hs hnc hcm hcut hmore
  | true => exact chunkKept_true n A nn cap ss cut more w hl hr hs hnc hcm hcut hmore
end Go.Proofs.Ytolgjknpifpmbaa
