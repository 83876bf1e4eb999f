/- The leaves of every tree that the law draws are different. -/
import Derived.Test.YtabfekfbdacboaaTr0
import Derived.Test.YtabfekfbdacboaaTr1
import Derived.Test.YtabfekfbdacboaaTr2
import Derived.Test.YtabfekfbdacboaaTr3
import Derived.Test.YtabfekfbdacboaaTr4
import Derived.Test.YtabfekfbdacboaaTr5
import Derived.Test.YtabfekfbdacboaaTr6
import Derived.Test.YtabfekfbdacboaaTr7
namespace Go.Proofs.Ytabfekfbdacboaa

theorem tr_lot (j : Nat) (h : j < 64) : tall 10 (j * 1024) = true := by
  match j, h with
  | 0, _ => exact tr_0
  | 1, _ => exact tr_1
  | 2, _ => exact tr_2
  | 3, _ => exact tr_3
  | 4, _ => exact tr_4
  | 5, _ => exact tr_5
  | 6, _ => exact tr_6
  | 7, _ => exact tr_7
  | 8, _ => exact tr_8
  | 9, _ => exact tr_9
  | 10, _ => exact tr_10
  | 11, _ => exact tr_11
  | 12, _ => exact tr_12
  | 13, _ => exact tr_13
  | 14, _ => exact tr_14
  | 15, _ => exact tr_15
  | 16, _ => exact tr_16
  | 17, _ => exact tr_17
  | 18, _ => exact tr_18
  | 19, _ => exact tr_19
  | 20, _ => exact tr_20
  | 21, _ => exact tr_21
  | 22, _ => exact tr_22
  | 23, _ => exact tr_23
  | 24, _ => exact tr_24
  | 25, _ => exact tr_25
  | 26, _ => exact tr_26
  | 27, _ => exact tr_27
  | 28, _ => exact tr_28
  | 29, _ => exact tr_29
  | 30, _ => exact tr_30
  | 31, _ => exact tr_31
  | 32, _ => exact tr_32
  | 33, _ => exact tr_33
  | 34, _ => exact tr_34
  | 35, _ => exact tr_35
  | 36, _ => exact tr_36
  | 37, _ => exact tr_37
  | 38, _ => exact tr_38
  | 39, _ => exact tr_39
  | 40, _ => exact tr_40
  | 41, _ => exact tr_41
  | 42, _ => exact tr_42
  | 43, _ => exact tr_43
  | 44, _ => exact tr_44
  | 45, _ => exact tr_45
  | 46, _ => exact tr_46
  | 47, _ => exact tr_47
  | 48, _ => exact tr_48
  | 49, _ => exact tr_49
  | 50, _ => exact tr_50
  | 51, _ => exact tr_51
  | 52, _ => exact tr_52
  | 53, _ => exact tr_53
  | 54, _ => exact tr_54
  | 55, _ => exact tr_55
  | 56, _ => exact tr_56
  | 57, _ => exact tr_57
  | 58, _ => exact tr_58
  | 59, _ => exact tr_59
  | 60, _ => exact tr_60
  | 61, _ => exact tr_61
  | 62, _ => exact tr_62
  | 63, _ => exact tr_63
  | n + 64, h => exact absurd h (by omega)
theorem tr_all (r : Nat) (h : r < 65536) : tok r = true := tall_get 10 (r / 1024 * 1024) (tr_lot (r / 1024) (by omega)) r (by omega) (by omega)
theorem tr_nodup (D r : Nat) (hD : D ≤ 5) (h : r < 65536) : (lv D r).Nodup := lv_nodup hD (tok_nodup (tr_all r h))
end Go.Proofs.Ytabfekfbdacboaa
