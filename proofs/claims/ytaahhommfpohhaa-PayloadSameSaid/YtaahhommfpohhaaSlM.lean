/- PLAIN LAW: metas. -/
import Derived.Test.YtaahhommfpohhaaFlds
namespace Go.Proofs.Ytaahhommfpohhaa
open Go.RowKit

structure MM where
  multi : Bool
  type : ByteArray
  size : Nat
  seq : Nat
  file : ByteArray
  kind : ByteArray
  md5 : ByteArray
  desc : ByteArray
def MM.cells (m : MM) : Array Value := #[.bool m.multi, .string m.type, .int .u64 m.size, .int .u64 m.seq, .string m.file, .string m.kind, .string m.md5, .string m.desc]
def MOk (m : MM) : Prop := m.size < 18446744073709551616 ∧ m.seq < 18446744073709551616
end Go.Proofs.Ytaahhommfpohhaa
