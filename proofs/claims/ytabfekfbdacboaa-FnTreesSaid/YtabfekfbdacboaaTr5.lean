/- The check of trees, roots 40960 to 49151. -/
import Derived.Test.YtabfekfbdacboaaTrp
import Derived.KernelRfl
namespace Go.Proofs.Ytabfekfbdacboaa

theorem tr_40 : tall 10 (nat_lit 40960) = true := by kernel_rfl
theorem tr_41 : tall 10 (nat_lit 41984) = true := by kernel_rfl
theorem tr_42 : tall 10 (nat_lit 43008) = true := by kernel_rfl
theorem tr_43 : tall 10 (nat_lit 44032) = true := by kernel_rfl
theorem tr_44 : tall 10 (nat_lit 45056) = true := by kernel_rfl
theorem tr_45 : tall 10 (nat_lit 46080) = true := by kernel_rfl
theorem tr_46 : tall 10 (nat_lit 47104) = true := by kernel_rfl
theorem tr_47 : tall 10 (nat_lit 48128) = true := by kernel_rfl
end Go.Proofs.Ytabfekfbdacboaa
