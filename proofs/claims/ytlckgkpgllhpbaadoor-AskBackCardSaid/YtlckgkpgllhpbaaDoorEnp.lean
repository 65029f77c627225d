/-
  Enp: a config's bytes, and the config of bytes, in plain Lean.
-/
import Derived.Test.YtlckgkpgllhpbaaDoorMem
import Derived.Test.YtlckgkpgllhpbaaDoorBits
namespace Go.Proofs.YtlckgkpgllhpbaaDoor

def memB (m : Mem) : List UInt8 := intB m.1 ++ (intB m.2.1 ++ (intB m.2.2.1 ++ intB m.2.2.2))
def memsB : List Mem → List UInt8
  | [] => []
  | m :: l => memB m ++ memsB l
def ensB (v : Int) (ms : List Mem) : List UInt8 := intB v ++ (intB ms.length ++ memsB ms)
def rdMem (st : RSt) : Mem × RSt :=
  ((( rCount st 7).1, (rCount (rCount st 7).2 2).1, (rCount (rCount (rCount st 7).2 2).2 1000).1, (rCount (rCount (rCount (rCount st 7).2 2).2 1000).2 7).1), (rCount (rCount (rCount (rCount st 7).2 2).2 1000).2 7).2)
def rdMems : Nat → RSt → List Mem × RSt
  | 0, st => ([], st)
  | n + 1, st => ((rdMems n st).1 ++ [(rdMem (rdMems n st).2).1], (rdMem (rdMems n st).2).2)
theorem rdMems_len (n : Nat) (st : RSt) : (rdMems n st).1.length = n := by
  induction n with
  | zero => rfl
  | succ n ih => simp [rdMems, ih]
/-- The version, the members and what is left. -/
def getR (b : List UInt8) : Int × List Mem × RSt :=
  let s0 := rInt (some b)
  let s1 := rCount s0.2 7
  let s2 := rdMems s1.1.toNat s1.2
  (s0.1, s2.1, s2.2)
def getE (b : List UInt8) : Option (Int × List Mem) :=
  if rWhole (getR b).2.2 = true ∧ chk (getR b).1 (getR b).2.1 = 0 then some ((getR b).1, (getR b).2.1) else none
theorem memB_len (m : Mem) : (memB m).length ≤ 40 := by
  have h1 := intB_len m.1
  have h2 := intB_len m.2.1
  have h3 := intB_len m.2.2.1
  have h4 := intB_len m.2.2.2
  simp [memB]; omega
theorem memsB_append (a b : List Mem) : memsB (a ++ b) = memsB a ++ memsB b := by
  induction a with
  | nil => rfl
  | cons m a ih => simp [memsB, ih]
theorem memsB_len (l : List Mem) : (memsB l).length ≤ l.length * 40 := by
  induction l with
  | nil => simp [memsB]
  | cons m l ih => have := memB_len m; simp [memsB]; omega
def awkMs : List Mem := [(1, 1, 1, 0), (2, 1, 1, 0), (3, 1, 1, 0)]
theorem awk_get : getE (ensB 5 awkMs) = some (5, awkMs) := by decide +kernel
theorem awk_chk : chk 5 awkMs = 0 := by decide +kernel
theorem awk_q1 : quo 5 awkMs [1, 2] = true := by decide +kernel
theorem awk_q2 : quo 5 awkMs [3] = false := by decide +kernel

end Go.Proofs.YtlckgkpgllhpbaaDoor
