/- Layer 15: LexPlaces, of any text. -/
import Derived.Test.YtdpcpnhkkedfcaaDoorWb
import Derived.Test.YtdpcpnhkkedfcaaDoorTok
namespace Go.Proofs.YtdpcpnhkkedfcaaDoor
open Go.RowKit
theorem Ev.nats_of (s : ByteArray) : Ev.Bytes (s.data.toList.map UInt8.toNat) := by
  intro c hc
  obtain ⟨b, _, rfl⟩ := List.mem_map.1 hc
  exact b.toNat_lt
theorem Ev.nats_len (s : ByteArray) : (s.data.toList.map UInt8.toNat).length = s.size := by rw [List.length_map]; exact size_len s
theorem places_walk (s : ByteArray) (hs : s.size ≤ 281474976710656) (w : World) (hT : Tab w) :
    Calls Tryd.prog 3 #[.string s] w fun r w' => r = .returned (.bool true) ∧ Below w.heap.size w w' :=
  Ev.spec_call (Ev.places_spec _ (Ev.nats_of s) (by rw [Ev.nats_len]; exact hs)) (u := .bool true) rfl (.cons (.str s _ rfl) (.nil _)) w hT
end Go.Proofs.YtdpcpnhkkedfcaaDoor
