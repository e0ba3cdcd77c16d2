/- Plain: periods of small angles, as the reference finds them; orbits. -/
import Derived.Test.YteegdpnidakjiaaDoorAngO
import Derived.KernelRfl
namespace Go.Proofs.YteegdpnidakjiaaDoor

/-- L tops from here on are met for the first time, and then one that was met (a set as the bits of a number) -/
def freshN (d : Nat) : Nat → Nat → Nat → Bool
  | 0, mask, num => mask / 2 ^ num % 2 == 1
  | f + 1, mask, num => (mask / 2 ^ num % 2 == 0) && freshN d f (mask + 2 ^ num) (2 * num % d)
def topN (d : Nat) : Nat → Nat → Nat
  | 0, num => num
  | j + 1, num => topN d j (2 * num % d)
def okSim (n d : Nat) : Bool := freshN d ((perOf d).1 + (perOf d).2) 0 n && (topN d ((perOf d).1 + (perOf d).2) n == topN d (perOf d).1 n)
theorem okSim_all : ((List.range 65).all fun d => (List.range d).all fun n => Nat.gcd n d != 1 || okSim n d) = true := by kernel_rfl
def okA (a b : Nat) : Bool := Nat.blt a b && Nat.ble b 64 && (Nat.gcd a b == 1)
/-- doublings that come back, and not before -/
def backA (x1 x2 : Nat) : Nat → Nat → Nat → Nat → Bool
  | 0, _, a, b => a == x1 && b == x2
  | j + 1, i, a, b => okA a b && !(Nat.blt 0 i && (a == x1 && b == x2)) && backA x1 x2 j (i + 1) (lowN (2 * a) b) (lowD (2 * a) b)
/-- some doublings, then the round -/
def preA (per : Nat) : Nat → Nat → Nat → Bool
  | 0, a, b => okA a b && backA a b per 0 a b
  | i + 1, a, b => okA a b && preA per i (lowN (2 * a) b) (lowD (2 * a) b)
def okOrb (n d : Nat) : Bool := preA (perOf d).2 (perOf d).1 n d && Nat.ble 1 (perOf d).2 && (((perOf d).1 == 0) == (d % 2 == 1))
theorem okOrb_all : ((List.range 65).all fun d => (List.range d).all fun n => Nat.gcd n d != 1 || okOrb n d) = true := by kernel_rfl
end Go.Proofs.YteegdpnidakjiaaDoor
