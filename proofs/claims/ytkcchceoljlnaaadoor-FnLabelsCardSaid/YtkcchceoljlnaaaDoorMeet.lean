/- Contracts of Meet, joined. -/
import Derived.Test.YtkcchceoljlnaaaDoorJoinN
import Derived.Test.YtkcchceoljlnaaaDoorMeetI
import Derived.Test.YtkcchceoljlnaaaDoorMeetS
import Derived.Deep.AppendLies
namespace Go.Proofs.YtkcchceoljlnaaaDoor
set_option linter.unusedSimpArgs false
set_option linter.unusedVariables false
open Go.RowKit
attribute [local go_sem ↓] Go.wp_at_zero Go.wp_at_succ

theorem implMeet_any (A B : Option Addr) (n m c d : Nat) (xs ys : List Int) (w : World) (hx : Ints w A xs) (hy : Ints w B ys) (hn : xs.length = n) (hm : ys.length = m) (hnb : n ≤ 1099511627776) (hmb : m ≤ 1099511627776) :
    Calls Tryd.prog 15 #[lab A n c, lab B m d] w (LabPost (joinR min xs ys) w) := by
  cases h1 : labB xs
  · rw [joinR_no1 h1]; exact implMeet_no1 A B n m c d xs ys w hx hy hn hm hnb hmb h1
  · cases h2 : labB ys
    · rw [joinR_no2 h2]; exact implMeet_no2 A B n m c d xs ys w hx hy hn hm hnb hmb h1 h2
    · rw [joinR_yes h1 h2]; exact implMeet_yes A B n m c d xs ys w hx hy hn hm hnb hmb h1 h2

end Go.Proofs.YtkcchceoljlnaaaDoor
