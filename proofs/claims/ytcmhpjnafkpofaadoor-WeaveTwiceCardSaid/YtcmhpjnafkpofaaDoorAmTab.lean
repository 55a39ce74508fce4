/- The table of the translation's types. Printed by gen_tab.py. -/
import Derived.Test.YtcmhpjnafkpofaaDoorChecked
import Derived.Test.YtcmhpjnafkpofaaDoorAmJ
namespace Go.Proofs.YtcmhpjnafkpofaaDoor
open Go Go.Am Go.Proofs
noncomputable def T : Tab := Tab.eqs [39, 46] (Tab.node (Tab.node (Tab.node (Tab.node (Tab.node (Tab.node (Tab.node (Tab.node Tab.leaf 0 Tryd.t0 Tab.leaf) 1 Tryd.t1 Tab.leaf) 2 Tryd.t2 (Tab.node Tab.leaf 3 Tryd.t3 Tab.leaf)) 4 Tryd.t4 (Tab.node (Tab.node Tab.leaf 5 Tryd.t5 Tab.leaf) 6 Tryd.t6 (Tab.node Tab.leaf 7 Tryd.t7 Tab.leaf))) 8 Tryd.t8 (Tab.node (Tab.node (Tab.node (Tab.node Tab.leaf 9 Tryd.t9 Tab.leaf) 10 Tryd.t10 Tab.leaf) 11 Tryd.t11 (Tab.node Tab.leaf 12 Tryd.t12 Tab.leaf)) 13 Tryd.t13 (Tab.node (Tab.node Tab.leaf 14 Tryd.t14 Tab.leaf) 15 Tryd.t15 (Tab.node Tab.leaf 16 Tryd.t16 Tab.leaf)))) 17 Tryd.t17 (Tab.node (Tab.node (Tab.node (Tab.node (Tab.node Tab.leaf 18 Tryd.t18 Tab.leaf) 19 Tryd.t19 Tab.leaf) 20 Tryd.t20 (Tab.node Tab.leaf 21 Tryd.t21 Tab.leaf)) 22 Tryd.t22 (Tab.node (Tab.node Tab.leaf 23 Tryd.t23 Tab.leaf) 24 Tryd.t24 (Tab.node Tab.leaf 25 Tryd.t25 Tab.leaf))) 26 Tryd.t26 (Tab.node (Tab.node (Tab.node (Tab.node Tab.leaf 27 Tryd.t27 Tab.leaf) 28 Tryd.t28 Tab.leaf) 29 Tryd.t29 (Tab.node Tab.leaf 30 Tryd.t30 Tab.leaf)) 31 Tryd.t31 (Tab.node (Tab.node Tab.leaf 32 Tryd.t32 Tab.leaf) 33 Tryd.t33 (Tab.node Tab.leaf 34 Tryd.t34 Tab.leaf))))) 35 Tryd.t35 (Tab.node (Tab.node (Tab.node (Tab.node (Tab.node (Tab.node Tab.leaf 36 Tryd.t36 Tab.leaf) 37 Tryd.t37 Tab.leaf) 38 Tryd.t38 (Tab.node Tab.leaf 39 Tryd.t39 Tab.leaf)) 40 Tryd.t40 (Tab.node (Tab.node Tab.leaf 41 Tryd.t41 Tab.leaf) 42 Tryd.t42 (Tab.node Tab.leaf 43 Tryd.t43 Tab.leaf))) 44 Tryd.t44 (Tab.node (Tab.node (Tab.node (Tab.node Tab.leaf 45 Tryd.t45 Tab.leaf) 46 Tryd.t46 Tab.leaf) 47 Tryd.t47 (Tab.node Tab.leaf 48 Tryd.t48 Tab.leaf)) 49 Tryd.t49 (Tab.node (Tab.node Tab.leaf 50 Tryd.t50 Tab.leaf) 51 Tryd.t51 (Tab.node Tab.leaf 52 Tryd.t52 Tab.leaf)))) 53 Tryd.t53 (Tab.node (Tab.node (Tab.node (Tab.node (Tab.node Tab.leaf 54 Tryd.t54 Tab.leaf) 55 Tryd.t55 Tab.leaf) 56 Tryd.t56 (Tab.node Tab.leaf 57 Tryd.t57 Tab.leaf)) 58 Tryd.t58 (Tab.node (Tab.node Tab.leaf 59 Tryd.t59 Tab.leaf) 60 Tryd.t60 (Tab.node Tab.leaf 61 Tryd.t61 Tab.leaf))) 62 Tryd.t62 (Tab.node (Tab.node (Tab.node (Tab.node Tab.leaf 63 Tryd.t63 Tab.leaf) 64 Tryd.t64 Tab.leaf) 65 Tryd.t65 (Tab.node Tab.leaf 66 Tryd.t66 Tab.leaf)) 67 Tryd.t67 (Tab.node (Tab.node Tab.leaf 68 Tryd.t68 Tab.leaf) 69 Tryd.t69 (Tab.node Tab.leaf 70 Tryd.t70 Tab.leaf)))))) 71 Tryd.t71 (Tab.node (Tab.node (Tab.node (Tab.node (Tab.node (Tab.node (Tab.node Tab.leaf 72 Tryd.t72 Tab.leaf) 73 Tryd.t73 Tab.leaf) 74 Tryd.t74 (Tab.node Tab.leaf 75 Tryd.t75 Tab.leaf)) 76 Tryd.t76 (Tab.node (Tab.node Tab.leaf 77 Tryd.t77 Tab.leaf) 78 Tryd.t78 (Tab.node Tab.leaf 79 Tryd.t79 Tab.leaf))) 80 Tryd.t80 (Tab.node (Tab.node (Tab.node (Tab.node Tab.leaf 81 Tryd.t81 Tab.leaf) 82 Tryd.t82 Tab.leaf) 83 Tryd.t83 (Tab.node Tab.leaf 84 Tryd.t84 Tab.leaf)) 85 Tryd.t85 (Tab.node (Tab.node Tab.leaf 86 Tryd.t86 Tab.leaf) 87 Tryd.t87 (Tab.node Tab.leaf 88 Tryd.t88 Tab.leaf)))) 89 Tryd.t89 (Tab.node (Tab.node (Tab.node (Tab.node (Tab.node Tab.leaf 90 Tryd.t90 Tab.leaf) 91 Tryd.t91 Tab.leaf) 92 Tryd.t92 (Tab.node Tab.leaf 93 Tryd.t93 Tab.leaf)) 94 Tryd.t94 (Tab.node (Tab.node Tab.leaf 95 Tryd.t95 Tab.leaf) 96 Tryd.t96 (Tab.node Tab.leaf 97 Tryd.t97 Tab.leaf))) 98 Tryd.t98 (Tab.node (Tab.node (Tab.node (Tab.node Tab.leaf 99 Tryd.t99 Tab.leaf) 100 Tryd.t100 Tab.leaf) 101 Tryd.t101 (Tab.node Tab.leaf 102 Tryd.t102 Tab.leaf)) 103 Tryd.t103 (Tab.node (Tab.node Tab.leaf 104 Tryd.t104 Tab.leaf) 105 Tryd.t105 (Tab.node Tab.leaf 106 Tryd.t106 Tab.leaf))))) 107 Tryd.t107 (Tab.node (Tab.node (Tab.node (Tab.node (Tab.node (Tab.node Tab.leaf 108 Tryd.t108 Tab.leaf) 109 Tryd.t109 Tab.leaf) 110 Tryd.t110 (Tab.node Tab.leaf 111 Tryd.t111 Tab.leaf)) 112 Tryd.t112 (Tab.node (Tab.node Tab.leaf 113 Tryd.t113 Tab.leaf) 114 Tryd.t114 (Tab.node Tab.leaf 115 Tryd.t115 Tab.leaf))) 116 Tryd.t116 (Tab.node (Tab.node (Tab.node (Tab.node Tab.leaf 117 Tryd.t117 Tab.leaf) 118 Tryd.t118 Tab.leaf) 119 Tryd.t119 (Tab.node Tab.leaf 120 Tryd.t120 Tab.leaf)) 121 Tryd.t121 (Tab.node (Tab.node Tab.leaf 122 Tryd.t122 Tab.leaf) 123 Tryd.t123 (Tab.node Tab.leaf 124 Tryd.t124 Tab.leaf)))) 125 Tryd.t125 (Tab.node (Tab.node (Tab.node (Tab.node (Tab.node Tab.leaf 126 Tryd.t126 Tab.leaf) 127 Tryd.t127 Tab.leaf) 128 Tryd.t128 (Tab.node Tab.leaf 129 Tryd.t129 Tab.leaf)) 130 Tryd.t130 (Tab.node (Tab.node Tab.leaf 131 Tryd.t131 Tab.leaf) 132 Tryd.t132 (Tab.node Tab.leaf 133 Tryd.t133 Tab.leaf))) 134 Tryd.t134 (Tab.node (Tab.node (Tab.node (Tab.node Tab.leaf 135 Tryd.t135 Tab.leaf) 136 Tryd.t136 Tab.leaf) 137 Tryd.t137 (Tab.node Tab.leaf 138 Tryd.t138 Tab.leaf)) 139 Tryd.t139 (Tab.node (Tab.node Tab.leaf 140 Tryd.t140 Tab.leaf) 141 Tryd.t141 (Tab.node Tab.leaf 142 Tryd.t142 Tab.leaf)))))))
theorem h0 : Tryd.prog.info? 0 = some Tryd.t0 := by kernel_rfl
theorem h1 : Tryd.prog.info? 1 = some Tryd.t1 := by kernel_rfl
theorem h2 : Tryd.prog.info? 2 = some Tryd.t2 := by kernel_rfl
theorem h3 : Tryd.prog.info? 3 = some Tryd.t3 := by kernel_rfl
theorem h4 : Tryd.prog.info? 4 = some Tryd.t4 := by kernel_rfl
theorem h5 : Tryd.prog.info? 5 = some Tryd.t5 := by kernel_rfl
theorem h6 : Tryd.prog.info? 6 = some Tryd.t6 := by kernel_rfl
theorem h7 : Tryd.prog.info? 7 = some Tryd.t7 := by kernel_rfl
theorem h8 : Tryd.prog.info? 8 = some Tryd.t8 := by kernel_rfl
theorem h9 : Tryd.prog.info? 9 = some Tryd.t9 := by kernel_rfl
theorem h10 : Tryd.prog.info? 10 = some Tryd.t10 := by kernel_rfl
theorem h11 : Tryd.prog.info? 11 = some Tryd.t11 := by kernel_rfl
theorem h12 : Tryd.prog.info? 12 = some Tryd.t12 := by kernel_rfl
theorem h13 : Tryd.prog.info? 13 = some Tryd.t13 := by kernel_rfl
theorem h14 : Tryd.prog.info? 14 = some Tryd.t14 := by kernel_rfl
theorem h15 : Tryd.prog.info? 15 = some Tryd.t15 := by kernel_rfl
theorem h16 : Tryd.prog.info? 16 = some Tryd.t16 := by kernel_rfl
theorem h17 : Tryd.prog.info? 17 = some Tryd.t17 := by kernel_rfl
theorem h18 : Tryd.prog.info? 18 = some Tryd.t18 := by kernel_rfl
theorem h19 : Tryd.prog.info? 19 = some Tryd.t19 := by kernel_rfl
theorem h20 : Tryd.prog.info? 20 = some Tryd.t20 := by kernel_rfl
theorem h21 : Tryd.prog.info? 21 = some Tryd.t21 := by kernel_rfl
theorem h22 : Tryd.prog.info? 22 = some Tryd.t22 := by kernel_rfl
theorem h23 : Tryd.prog.info? 23 = some Tryd.t23 := by kernel_rfl
theorem h24 : Tryd.prog.info? 24 = some Tryd.t24 := by kernel_rfl
theorem h25 : Tryd.prog.info? 25 = some Tryd.t25 := by kernel_rfl
theorem h26 : Tryd.prog.info? 26 = some Tryd.t26 := by kernel_rfl
theorem h27 : Tryd.prog.info? 27 = some Tryd.t27 := by kernel_rfl
theorem h28 : Tryd.prog.info? 28 = some Tryd.t28 := by kernel_rfl
theorem h29 : Tryd.prog.info? 29 = some Tryd.t29 := by kernel_rfl
theorem h30 : Tryd.prog.info? 30 = some Tryd.t30 := by kernel_rfl
theorem h31 : Tryd.prog.info? 31 = some Tryd.t31 := by kernel_rfl
theorem h32 : Tryd.prog.info? 32 = some Tryd.t32 := by kernel_rfl
theorem h33 : Tryd.prog.info? 33 = some Tryd.t33 := by kernel_rfl
theorem h34 : Tryd.prog.info? 34 = some Tryd.t34 := by kernel_rfl
theorem h35 : Tryd.prog.info? 35 = some Tryd.t35 := by kernel_rfl
theorem h36 : Tryd.prog.info? 36 = some Tryd.t36 := by kernel_rfl
theorem h37 : Tryd.prog.info? 37 = some Tryd.t37 := by kernel_rfl
theorem h38 : Tryd.prog.info? 38 = some Tryd.t38 := by kernel_rfl
theorem h39 : Tryd.prog.info? 39 = some Tryd.t39 := by kernel_rfl
theorem h40 : Tryd.prog.info? 40 = some Tryd.t40 := by kernel_rfl
theorem h41 : Tryd.prog.info? 41 = some Tryd.t41 := by kernel_rfl
theorem h42 : Tryd.prog.info? 42 = some Tryd.t42 := by kernel_rfl
theorem h43 : Tryd.prog.info? 43 = some Tryd.t43 := by kernel_rfl
theorem h44 : Tryd.prog.info? 44 = some Tryd.t44 := by kernel_rfl
theorem h45 : Tryd.prog.info? 45 = some Tryd.t45 := by kernel_rfl
theorem h46 : Tryd.prog.info? 46 = some Tryd.t46 := by kernel_rfl
theorem h47 : Tryd.prog.info? 47 = some Tryd.t47 := by kernel_rfl
theorem h48 : Tryd.prog.info? 48 = some Tryd.t48 := by kernel_rfl
theorem h49 : Tryd.prog.info? 49 = some Tryd.t49 := by kernel_rfl
theorem h50 : Tryd.prog.info? 50 = some Tryd.t50 := by kernel_rfl
theorem h51 : Tryd.prog.info? 51 = some Tryd.t51 := by kernel_rfl
theorem h52 : Tryd.prog.info? 52 = some Tryd.t52 := by kernel_rfl
theorem h53 : Tryd.prog.info? 53 = some Tryd.t53 := by kernel_rfl
theorem h54 : Tryd.prog.info? 54 = some Tryd.t54 := by kernel_rfl
theorem h55 : Tryd.prog.info? 55 = some Tryd.t55 := by kernel_rfl
theorem h56 : Tryd.prog.info? 56 = some Tryd.t56 := by kernel_rfl
theorem h57 : Tryd.prog.info? 57 = some Tryd.t57 := by kernel_rfl
theorem h58 : Tryd.prog.info? 58 = some Tryd.t58 := by kernel_rfl
theorem h59 : Tryd.prog.info? 59 = some Tryd.t59 := by kernel_rfl
theorem h60 : Tryd.prog.info? 60 = some Tryd.t60 := by kernel_rfl
theorem h61 : Tryd.prog.info? 61 = some Tryd.t61 := by kernel_rfl
theorem h62 : Tryd.prog.info? 62 = some Tryd.t62 := by kernel_rfl
theorem h63 : Tryd.prog.info? 63 = some Tryd.t63 := by kernel_rfl
theorem h64 : Tryd.prog.info? 64 = some Tryd.t64 := by kernel_rfl
theorem h65 : Tryd.prog.info? 65 = some Tryd.t65 := by kernel_rfl
theorem h66 : Tryd.prog.info? 66 = some Tryd.t66 := by kernel_rfl
theorem h67 : Tryd.prog.info? 67 = some Tryd.t67 := by kernel_rfl
theorem h68 : Tryd.prog.info? 68 = some Tryd.t68 := by kernel_rfl
theorem h69 : Tryd.prog.info? 69 = some Tryd.t69 := by kernel_rfl
theorem h70 : Tryd.prog.info? 70 = some Tryd.t70 := by kernel_rfl
theorem h71 : Tryd.prog.info? 71 = some Tryd.t71 := by kernel_rfl
theorem h72 : Tryd.prog.info? 72 = some Tryd.t72 := by kernel_rfl
theorem h73 : Tryd.prog.info? 73 = some Tryd.t73 := by kernel_rfl
theorem h74 : Tryd.prog.info? 74 = some Tryd.t74 := by kernel_rfl
theorem h75 : Tryd.prog.info? 75 = some Tryd.t75 := by kernel_rfl
theorem h76 : Tryd.prog.info? 76 = some Tryd.t76 := by kernel_rfl
theorem h77 : Tryd.prog.info? 77 = some Tryd.t77 := by kernel_rfl
theorem h78 : Tryd.prog.info? 78 = some Tryd.t78 := by kernel_rfl
theorem h79 : Tryd.prog.info? 79 = some Tryd.t79 := by kernel_rfl
theorem h80 : Tryd.prog.info? 80 = some Tryd.t80 := by kernel_rfl
theorem h81 : Tryd.prog.info? 81 = some Tryd.t81 := by kernel_rfl
theorem h82 : Tryd.prog.info? 82 = some Tryd.t82 := by kernel_rfl
theorem h83 : Tryd.prog.info? 83 = some Tryd.t83 := by kernel_rfl
theorem h84 : Tryd.prog.info? 84 = some Tryd.t84 := by kernel_rfl
theorem h85 : Tryd.prog.info? 85 = some Tryd.t85 := by kernel_rfl
theorem h86 : Tryd.prog.info? 86 = some Tryd.t86 := by kernel_rfl
theorem h87 : Tryd.prog.info? 87 = some Tryd.t87 := by kernel_rfl
theorem h88 : Tryd.prog.info? 88 = some Tryd.t88 := by kernel_rfl
theorem h89 : Tryd.prog.info? 89 = some Tryd.t89 := by kernel_rfl
theorem h90 : Tryd.prog.info? 90 = some Tryd.t90 := by kernel_rfl
theorem h91 : Tryd.prog.info? 91 = some Tryd.t91 := by kernel_rfl
theorem h92 : Tryd.prog.info? 92 = some Tryd.t92 := by kernel_rfl
theorem h93 : Tryd.prog.info? 93 = some Tryd.t93 := by kernel_rfl
theorem h94 : Tryd.prog.info? 94 = some Tryd.t94 := by kernel_rfl
theorem h95 : Tryd.prog.info? 95 = some Tryd.t95 := by kernel_rfl
theorem h96 : Tryd.prog.info? 96 = some Tryd.t96 := by kernel_rfl
theorem h97 : Tryd.prog.info? 97 = some Tryd.t97 := by kernel_rfl
theorem h98 : Tryd.prog.info? 98 = some Tryd.t98 := by kernel_rfl
theorem h99 : Tryd.prog.info? 99 = some Tryd.t99 := by kernel_rfl
theorem h100 : Tryd.prog.info? 100 = some Tryd.t100 := by kernel_rfl
theorem h101 : Tryd.prog.info? 101 = some Tryd.t101 := by kernel_rfl
theorem h102 : Tryd.prog.info? 102 = some Tryd.t102 := by kernel_rfl
theorem h103 : Tryd.prog.info? 103 = some Tryd.t103 := by kernel_rfl
theorem h104 : Tryd.prog.info? 104 = some Tryd.t104 := by kernel_rfl
theorem h105 : Tryd.prog.info? 105 = some Tryd.t105 := by kernel_rfl
theorem h106 : Tryd.prog.info? 106 = some Tryd.t106 := by kernel_rfl
theorem h107 : Tryd.prog.info? 107 = some Tryd.t107 := by kernel_rfl
theorem h108 : Tryd.prog.info? 108 = some Tryd.t108 := by kernel_rfl
theorem h109 : Tryd.prog.info? 109 = some Tryd.t109 := by kernel_rfl
theorem h110 : Tryd.prog.info? 110 = some Tryd.t110 := by kernel_rfl
theorem h111 : Tryd.prog.info? 111 = some Tryd.t111 := by kernel_rfl
theorem h112 : Tryd.prog.info? 112 = some Tryd.t112 := by kernel_rfl
theorem h113 : Tryd.prog.info? 113 = some Tryd.t113 := by kernel_rfl
theorem h114 : Tryd.prog.info? 114 = some Tryd.t114 := by kernel_rfl
theorem h115 : Tryd.prog.info? 115 = some Tryd.t115 := by kernel_rfl
theorem h116 : Tryd.prog.info? 116 = some Tryd.t116 := by kernel_rfl
theorem h117 : Tryd.prog.info? 117 = some Tryd.t117 := by kernel_rfl
theorem h118 : Tryd.prog.info? 118 = some Tryd.t118 := by kernel_rfl
theorem h119 : Tryd.prog.info? 119 = some Tryd.t119 := by kernel_rfl
theorem h120 : Tryd.prog.info? 120 = some Tryd.t120 := by kernel_rfl
theorem h121 : Tryd.prog.info? 121 = some Tryd.t121 := by kernel_rfl
theorem h122 : Tryd.prog.info? 122 = some Tryd.t122 := by kernel_rfl
theorem h123 : Tryd.prog.info? 123 = some Tryd.t123 := by kernel_rfl
theorem h124 : Tryd.prog.info? 124 = some Tryd.t124 := by kernel_rfl
theorem h125 : Tryd.prog.info? 125 = some Tryd.t125 := by kernel_rfl
theorem h126 : Tryd.prog.info? 126 = some Tryd.t126 := by kernel_rfl
theorem h127 : Tryd.prog.info? 127 = some Tryd.t127 := by kernel_rfl
theorem h128 : Tryd.prog.info? 128 = some Tryd.t128 := by kernel_rfl
theorem h129 : Tryd.prog.info? 129 = some Tryd.t129 := by kernel_rfl
theorem h130 : Tryd.prog.info? 130 = some Tryd.t130 := by kernel_rfl
theorem h131 : Tryd.prog.info? 131 = some Tryd.t131 := by kernel_rfl
theorem h132 : Tryd.prog.info? 132 = some Tryd.t132 := by kernel_rfl
theorem h133 : Tryd.prog.info? 133 = some Tryd.t133 := by kernel_rfl
theorem h134 : Tryd.prog.info? 134 = some Tryd.t134 := by kernel_rfl
theorem h135 : Tryd.prog.info? 135 = some Tryd.t135 := by kernel_rfl
theorem h136 : Tryd.prog.info? 136 = some Tryd.t136 := by kernel_rfl
theorem h137 : Tryd.prog.info? 137 = some Tryd.t137 := by kernel_rfl
theorem h138 : Tryd.prog.info? 138 = some Tryd.t138 := by kernel_rfl
theorem h139 : Tryd.prog.info? 139 = some Tryd.t139 := by kernel_rfl
theorem h140 : Tryd.prog.info? 140 = some Tryd.t140 := by kernel_rfl
theorem h141 : Tryd.prog.info? 141 = some Tryd.t141 := by kernel_rfl
theorem h142 : Tryd.prog.info? 142 = some Tryd.t142 := by kernel_rfl
theorem q39 : eqTypeOk Tryd.prog 39 = true := by kernel_rfl
theorem q46 : eqTypeOk Tryd.prog 46 = true := by kernel_rfl
theorem eqsOk : ∀ k ∈ [39, 46], eqTypeOk Tryd.prog k = true := List.forall_mem_cons.2 ⟨q39, List.forall_mem_cons.2 ⟨q46, List.forall_mem_nil _⟩⟩
set_option maxRecDepth 100000 in
theorem fits : T.fits Tryd.prog := ⟨eqsOk, ⟨⟨⟨⟨⟨⟨⟨⟨trivial, h0, trivial⟩, h1, trivial⟩, h2, ⟨trivial, h3, trivial⟩⟩, h4, ⟨⟨trivial, h5, trivial⟩, h6, ⟨trivial, h7, trivial⟩⟩⟩, h8, ⟨⟨⟨⟨trivial, h9, trivial⟩, h10, trivial⟩, h11, ⟨trivial, h12, trivial⟩⟩, h13, ⟨⟨trivial, h14, trivial⟩, h15, ⟨trivial, h16, trivial⟩⟩⟩⟩, h17, ⟨⟨⟨⟨⟨trivial, h18, trivial⟩, h19, trivial⟩, h20, ⟨trivial, h21, trivial⟩⟩, h22, ⟨⟨trivial, h23, trivial⟩, h24, ⟨trivial, h25, trivial⟩⟩⟩, h26, ⟨⟨⟨⟨trivial, h27, trivial⟩, h28, trivial⟩, h29, ⟨trivial, h30, trivial⟩⟩, h31, ⟨⟨trivial, h32, trivial⟩, h33, ⟨trivial, h34, trivial⟩⟩⟩⟩⟩, h35, ⟨⟨⟨⟨⟨⟨trivial, h36, trivial⟩, h37, trivial⟩, h38, ⟨trivial, h39, trivial⟩⟩, h40, ⟨⟨trivial, h41, trivial⟩, h42, ⟨trivial, h43, trivial⟩⟩⟩, h44, ⟨⟨⟨⟨trivial, h45, trivial⟩, h46, trivial⟩, h47, ⟨trivial, h48, trivial⟩⟩, h49, ⟨⟨trivial, h50, trivial⟩, h51, ⟨trivial, h52, trivial⟩⟩⟩⟩, h53, ⟨⟨⟨⟨⟨trivial, h54, trivial⟩, h55, trivial⟩, h56, ⟨trivial, h57, trivial⟩⟩, h58, ⟨⟨trivial, h59, trivial⟩, h60, ⟨trivial, h61, trivial⟩⟩⟩, h62, ⟨⟨⟨⟨trivial, h63, trivial⟩, h64, trivial⟩, h65, ⟨trivial, h66, trivial⟩⟩, h67, ⟨⟨trivial, h68, trivial⟩, h69, ⟨trivial, h70, trivial⟩⟩⟩⟩⟩⟩, h71, ⟨⟨⟨⟨⟨⟨⟨trivial, h72, trivial⟩, h73, trivial⟩, h74, ⟨trivial, h75, trivial⟩⟩, h76, ⟨⟨trivial, h77, trivial⟩, h78, ⟨trivial, h79, trivial⟩⟩⟩, h80, ⟨⟨⟨⟨trivial, h81, trivial⟩, h82, trivial⟩, h83, ⟨trivial, h84, trivial⟩⟩, h85, ⟨⟨trivial, h86, trivial⟩, h87, ⟨trivial, h88, trivial⟩⟩⟩⟩, h89, ⟨⟨⟨⟨⟨trivial, h90, trivial⟩, h91, trivial⟩, h92, ⟨trivial, h93, trivial⟩⟩, h94, ⟨⟨trivial, h95, trivial⟩, h96, ⟨trivial, h97, trivial⟩⟩⟩, h98, ⟨⟨⟨⟨trivial, h99, trivial⟩, h100, trivial⟩, h101, ⟨trivial, h102, trivial⟩⟩, h103, ⟨⟨trivial, h104, trivial⟩, h105, ⟨trivial, h106, trivial⟩⟩⟩⟩⟩, h107, ⟨⟨⟨⟨⟨⟨trivial, h108, trivial⟩, h109, trivial⟩, h110, ⟨trivial, h111, trivial⟩⟩, h112, ⟨⟨trivial, h113, trivial⟩, h114, ⟨trivial, h115, trivial⟩⟩⟩, h116, ⟨⟨⟨⟨trivial, h117, trivial⟩, h118, trivial⟩, h119, ⟨trivial, h120, trivial⟩⟩, h121, ⟨⟨trivial, h122, trivial⟩, h123, ⟨trivial, h124, trivial⟩⟩⟩⟩, h125, ⟨⟨⟨⟨⟨trivial, h126, trivial⟩, h127, trivial⟩, h128, ⟨trivial, h129, trivial⟩⟩, h130, ⟨⟨trivial, h131, trivial⟩, h132, ⟨trivial, h133, trivial⟩⟩⟩, h134, ⟨⟨⟨⟨trivial, h135, trivial⟩, h136, trivial⟩, h137, ⟨trivial, h138, trivial⟩⟩, h139, ⟨⟨trivial, h140, trivial⟩, h141, ⟨trivial, h142, trivial⟩⟩⟩⟩⟩⟩⟩⟩
theorem mixed : Tryd.prog.follows .mixedOrders = true := by kernel_rfl
noncomputable def cx (ar : List (Nat × Bool)) (n : Nat) : Cx := { P := Tryd.prog, T := T, ar := ar, n := n }
/-- package-level variables of the library's that hold some number -/
class GVals where
  m0 : Int
def globT [GVals] : Nat → Option (List D)
  | 0 => some [.sc (.int .i64 GVals.m0)]
  | _ => none
instance [GVals] : HasGlob := ⟨globT⟩
end Go.Proofs.YtcmhpjnafkpofaaDoor
