/-
  The program's functions, as the executor has them: the table.
-/
import Derived.Test.YtipmhbfneciojaaGreatRows
import Derived.Test.YtipmhbfneciojaaGreatViewTb0
import Derived.Test.YtipmhbfneciojaaGreatViewTb1
namespace Go.Proofs.YtipmhbfneciojaaGreat
open Go Go.Ax
def tbl : List (Option AFunc) := [none, none, some a2, some a3, some a4, some a5, some a6, some a7, some a8, some a9, some a10, some a11, some a12, some a13, some a14, some a15, some a16, some a17, some a18, some a19, some a20, some a21, some a22, some a23, some a24, some a25, some a26, some a27, some a28, some a29, some a30, some a31, some a32, some a33, some a34, some a35, some a36, some a37, some a38, some a39, some a40, some a41, some a42, some a43, some a44, some a45, some a46, some a47, some a48, some a49, some a50, some a51, some a52, some a53, some a54, some a55, some a56, some a57, some a58, some a59, some a60, some a61, some a62, some a63, some a64, some a65, some a66, some a67, some a68, some a69, some a70, some a71, some a72, some a73, some a74, none, some a76, some a77, some a78, some a79, some a80, some a81, some a82, some a83, some a84, some a85, some a86, some a87, some a88, some a89, some a90, some a91, some a92, some a93, some a94, some a95, some a96, some a97, some a98, some a99, some a100, some a101, some a102, some a103, some a104, some a105, some a106, some a107, some a108, some a109, some a110, some a111, some a112, some a113, some a114, none, none, none, none, none, none, none, none, none, none, none, none, none, none, none, none, none]
theorem tbl_eq : tbl = tabList Tryz.prog 132 0 := by kernel_rfl
theorem tabOK : TabOK Tryz.prog (fsT tbl) := tab_fsT tbl_eq
end Go.Proofs.YtipmhbfneciojaaGreat
