/- The reference integers: Add, of canonical integers. -/
import Derived.Test.YtjpalbonclgflaaGreatRefSub
import Derived.Test.YtjpalbonclgflaaGreatPart4
namespace Go.Proofs.YtjpalbonclgflaaGreat
open Go.RowKit


theorem can_bb (a : Bool) (s : ByteArray) (h : IntV (ival a s) = .agg #[.bool a, .string s]) : s.data.toList = bb (bval s.data.toList) := by
  have h1 : #[Value.bool (ineg (ival a s)), Value.string (imag (ival a s))] = #[Value.bool a, Value.string s] := by simpa [IntV] using h
  have h2 : imag (ival a s) = s := by
    have := congrArg (fun (x : Array Value) => x.toList) h1
    simp only [List.cons.injEq, Value.string.injEq] at this
    exact this.2.1
  have h3 := congrArg (fun (x : ByteArray) => x.data.toList) h2
  simp only [imag_list] at h3
  rw [← h3, ival, sgn_abs, bval_bb]
end Go.Proofs.YtjpalbonclgflaaGreat
