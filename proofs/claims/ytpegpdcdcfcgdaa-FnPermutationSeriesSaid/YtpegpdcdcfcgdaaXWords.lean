/- Words of mine for the printed texts: '==' of arrays as one Bool; what the turned print leans on beside the print's own words. -/
import Derived.Test.YtpegpdcdcfcgdaaWEqStruct
import Derived.Lib.SliceRun
namespace Go.Proofs.YtpegpdcdcfcgdaaX
open Go.RowKit
section
variable {P : Program} {d n : Nat} {xs ys : Array Value} {e : TypeId} {a b : Value} {r s : Bool} {w : World}
def eqElems (d : Nat) (e : TypeId) (n : Nat) (xs ys : Array Value) : List Nat → Sem Bool
  | [] => pure true
  | i :: is => do
    let a ← part e xs (i * n)
    let b ← part e ys (i * n)
    let r ← Op.equalIn d e a b
    if (!r) = true then pure false else eqElems d e n xs ys is
theorem eqe_last {i : Nat} (ha : (part e xs (i * n)).run P w = .ok a w) (hb : (part e ys (i * n)).run P w = .ok b w) (he : (Op.equalIn d e a b).run P w = .ok r w) : (eqElems d e n xs ys [i]).run P w = .ok r w := by
  simp only [eqElems, Sem.run_bind, ha, hb, he, Result.andThen_ok]
  cases r <;> simp
theorem eqe_cons {i : Nat} {is : List Nat} (ha : (part e xs (i * n)).run P w = .ok a w) (hb : (part e ys (i * n)).run P w = .ok b w) (he : (Op.equalIn d e a b).run P w = .ok r w) (hr : (eqElems d e n xs ys is).run P w = .ok s w) : (eqElems d e n xs ys (i :: is)).run P w = .ok (r && s) w := by
  rw [eqElems]
  simp only [Sem.run_bind, ha, hb, he, Result.andThen_ok]
  cases r
  · simp
  · simpa using hr
theorem eqArr_of {t : TypeId} {len : Nat} (hu : P.underlying t = some (.array len e)) (hn : ∀ w, (sizeOf e).run P w = .ok n w) (h : (eqElems d e n xs ys (List.range' 0 len)).run P w = .ok r w) : (Op.equalIn (d + 1) t (.agg xs) (.agg ys)).run P w = .ok r w := by
  rw [← h]
  clear h
  simp only [Op.equalIn, Sem.run_bind, run_underlying hu, Result.andThen_ok, hn]
  rw [Std.Legacy.Range.forIn_eq_forIn_range']
  simp only [Std.Legacy.Range.size, Nat.sub_zero, Nat.add_one_sub_one, Nat.div_one]
  generalize List.range' 0 len = l
  induction l generalizing w with
  | nil => simp [eqElems]
  | cons f fs ih =>
    simp only [List.forIn_cons, eqElems, Sem.run_bind, Sem.run_ite]
    generalize (part e xs (f * n)).run P w = r1
    cases r1 with
    | ok a w1 =>
      simp only [Result.andThen_ok]
      generalize (part e ys (f * n)).run P w1 = r2
      cases r2 with
      | ok b w2 =>
        simp only [Result.andThen_ok]
        generalize (Op.equalIn d e a b).run P w2 = r3
        cases r3 with
        | ok r w3 =>
          cases r
          · simp only [Result.andThen_ok, Bool.not_false, if_true, Sem.run_pure]
          · simp only [Result.andThen_ok, Bool.not_true, Bool.false_eq_true, if_false, Sem.run_pure]
            exact ih
        | halt x w3 => simp [Result.andThen]
      | halt x w2 => simp [Result.andThen]
    | halt x w1 => simp [Result.andThen]
end
end Go.Proofs.YtpegpdcdcfcgdaaX
