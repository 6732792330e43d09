/- Cells of a block. -/
import Derived.Test.YtmhpfoicloojcaaGreatDoorZai
import Derived.Test.YtmhpfoicloojcaaGreatDoorZae
set_option linter.all false
open Go.World renaming size_alloc→aA
open Go renaming Value→aB,TypeId→aC
namespace Go.Proofs.YtmhpfoicloojcaaGreatDoor
set_option maxRecDepth 100000
set_option maxHeartbeats 16000000
section
open Go Go.RowKit
section
variable {w:World} {g:Nat} {t:aC}
theorem BlkIs.c0 {u0:aB} {l:List aB} (h:BlkIs w g t (u0 :: l)):w.cell? ⟨g,0,none⟩=some u0:=h.cell 0
theorem BlkIs.c1 {u0 u1:aB} {l:List aB} (h:BlkIs w g t (u0 :: u1 :: l)):w.cell? ⟨g,1,none⟩=some u1:=h.cell 1
theorem BlkIs.c2 {u0 u1 u2:aB} {l:List aB} (h:BlkIs w g t (u0 :: u1 :: u2 :: l)):w.cell? ⟨g,2,none⟩=some u2:=h.cell 2
theorem BlkIs.c3 {u0 u1 u2 u3:aB} {l:List aB} (h:BlkIs w g t (u0 :: u1 :: u2 :: u3 :: l)):w.cell? ⟨g,3,none⟩=some u3:=h.cell 3
theorem BlkIs.c4 {u0 u1 u2 u3 u4:aB} {l:List aB} (h:BlkIs w g t (u0 :: u1 :: u2 :: u3 :: u4 :: l)):w.cell? ⟨g,4,none⟩=some u4:=h.cell 4
theorem BlkIs.c5 {u0 u1 u2 u3 u4 u5:aB} {l:List aB} (h:BlkIs w g t (u0 :: u1 :: u2 :: u3 :: u4 :: u5 :: l)):w.cell? ⟨g,5,none⟩=some u5:=h.cell 5
theorem BlkIs.c6 {u0 u1 u2 u3 u4 u5 u6:aB} {l:List aB} (h:BlkIs w g t (u0 :: u1 :: u2 :: u3 :: u4 :: u5 :: u6 :: l)):w.cell? ⟨g,6,none⟩=some u6:=h.cell 6
theorem BlkIs.c7 {u0 u1 u2 u3 u4 u5 u6 u7:aB} {l:List aB} (h:BlkIs w g t (u0 :: u1 :: u2 :: u3 :: u4 :: u5 :: u6 :: u7 :: l)):w.cell? ⟨g,7,none⟩=some u7:=h.cell 7
theorem BlkIs.c8 {u0 u1 u2 u3 u4 u5 u6 u7 u8:aB} {l:List aB} (h:BlkIs w g t (u0 :: u1 :: u2 :: u3 :: u4 :: u5 :: u6 :: u7 :: u8 :: l)):w.cell? ⟨g,8,none⟩=some u8:=h.cell 8
theorem BlkIs.c9 {u0 u1 u2 u3 u4 u5 u6 u7 u8 u9:aB} {l:List aB} (h:BlkIs w g t (u0 :: u1 :: u2 :: u3 :: u4 :: u5 :: u6 :: u7 :: u8 :: u9 :: l)):w.cell? ⟨g,9,none⟩=some u9:=h.cell 9
theorem BlkIs.c10 {u0 u1 u2 u3 u4 u5 u6 u7 u8 u9 u10:aB} {l:List aB} (h:BlkIs w g t (u0 :: u1 :: u2 :: u3 :: u4 :: u5 :: u6 :: u7 :: u8 :: u9 :: u10 :: l)):w.cell? ⟨g,10,none⟩=some u10:=h.cell 10
theorem BlkIs.c11 {u0 u1 u2 u3 u4 u5 u6 u7 u8 u9 u10 u11:aB} {l:List aB} (h:BlkIs w g t (u0 :: u1 :: u2 :: u3 :: u4 :: u5 :: u6 :: u7 :: u8 :: u9 :: u10 :: u11 :: l)):w.cell? ⟨g,11,none⟩=some u11:=h.cell 11
theorem BlkIs.c17 {u0 u1 u2 u3 u4 u5 u6 u7 u8 u9 u10 u11 u12 u13 u14 u15 u16 u17:aB} {l:List aB} (h:BlkIs w g t (u0 :: u1 :: u2 :: u3 :: u4 :: u5 :: u6 :: u7 :: u8 :: u9 :: u10 :: u11 :: u12 :: u13 :: u14 :: u15 :: u16 :: u17 :: l)):w.cell? ⟨g,17,none⟩=some u17:=h.cell 17
theorem BlkIs.c18 {u0 u1 u2 u3 u4 u5 u6 u7 u8 u9 u10 u11 u12 u13 u14 u15 u16 u17 u18:aB} {l:List aB} (h:BlkIs w g t (u0 :: u1 :: u2 :: u3 :: u4 :: u5 :: u6 :: u7 :: u8 :: u9 :: u10 :: u11 :: u12 :: u13 :: u14 :: u15 :: u16 :: u17 :: u18 :: l)):w.cell? ⟨g,18,none⟩=some u18:=h.cell 18
theorem BlkIs.c19 {u0 u1 u2 u3 u4 u5 u6 u7 u8 u9 u10 u11 u12 u13 u14 u15 u16 u17 u18 u19:aB} {l:List aB} (h:BlkIs w g t (u0 :: u1 :: u2 :: u3 :: u4 :: u5 :: u6 :: u7 :: u8 :: u9 :: u10 :: u11 :: u12 :: u13 :: u14 :: u15 :: u16 :: u17 :: u18 :: u19 :: l)):w.cell? ⟨g,19,none⟩=some u19:=h.cell 19
theorem BlkIs.c20 {u0 u1 u2 u3 u4 u5 u6 u7 u8 u9 u10 u11 u12 u13 u14 u15 u16 u17 u18 u19 u20:aB} {l:List aB} (h:BlkIs w g t (u0 :: u1 :: u2 :: u3 :: u4 :: u5 :: u6 :: u7 :: u8 :: u9 :: u10 :: u11 :: u12 :: u13 :: u14 :: u15 :: u16 :: u17 :: u18 :: u19 :: u20 :: l)):w.cell? ⟨g,20,none⟩=some u20:=h.cell 20
theorem BlkIs.C2 {u0 u1:aB} {l:List aB} (h:BlkIs w g t (u0 :: u1 :: l)):w.cell? ⟨g,0,none⟩=some u0/\w.cell? ⟨g,1,none⟩=some u1:=⟨h.cell 0,h.cell 1⟩
theorem BlkIs.C3 {u0 u1 u2:aB} {l:List aB} (h:BlkIs w g t (u0 :: u1 :: u2 :: l)):w.cell? ⟨g,0,none⟩=some u0/\w.cell? ⟨g,1,none⟩=some u1/\w.cell? ⟨g,2,none⟩=some u2:=⟨h.cell 0,h.cell 1,h.cell 2⟩
theorem BlkIs.C4 {u0 u1 u2 u3:aB} {l:List aB} (h:BlkIs w g t (u0 :: u1 :: u2 :: u3 :: l)):w.cell? ⟨g,0,none⟩=some u0/\w.cell? ⟨g,1,none⟩=some u1/\w.cell? ⟨g,2,none⟩=some u2/\w.cell? ⟨g,3,none⟩=some u3:=⟨h.cell 0,h.cell 1,h.cell 2,h.cell 3⟩
theorem BlkIs.C5 {u0 u1 u2 u3 u4:aB} {l:List aB} (h:BlkIs w g t (u0 :: u1 :: u2 :: u3 :: u4 :: l)):w.cell? ⟨g,0,none⟩=some u0/\w.cell? ⟨g,1,none⟩=some u1/\w.cell? ⟨g,2,none⟩=some u2/\w.cell? ⟨g,3,none⟩=some u3/\w.cell? ⟨g,4,none⟩=some u4:=⟨h.cell 0,h.cell 1,h.cell 2,h.cell 3,h.cell 4⟩
theorem BlkIs.C6 {u0 u1 u2 u3 u4 u5:aB} {l:List aB} (h:BlkIs w g t (u0 :: u1 :: u2 :: u3 :: u4 :: u5 :: l)):w.cell? ⟨g,0,none⟩=some u0/\w.cell? ⟨g,1,none⟩=some u1/\w.cell? ⟨g,2,none⟩=some u2/\w.cell? ⟨g,3,none⟩=some u3/\w.cell? ⟨g,4,none⟩=some u4/\w.cell? ⟨g,5,none⟩=some u5:=⟨h.cell 0,h.cell 1,h.cell 2,h.cell 3,h.cell 4,h.cell 5⟩
theorem BlkIs.C7 {u0 u1 u2 u3 u4 u5 u6:aB} {l:List aB} (h:BlkIs w g t (u0 :: u1 :: u2 :: u3 :: u4 :: u5 :: u6 :: l)):w.cell? ⟨g,0,none⟩=some u0/\w.cell? ⟨g,1,none⟩=some u1/\w.cell? ⟨g,2,none⟩=some u2/\w.cell? ⟨g,3,none⟩=some u3/\w.cell? ⟨g,4,none⟩=some u4/\w.cell? ⟨g,5,none⟩=some u5/\w.cell? ⟨g,6,none⟩=some u6:=⟨h.cell 0,h.cell 1,h.cell 2,h.cell 3,h.cell 4,h.cell 5,h.cell 6⟩
theorem BlkIs.C8 {u0 u1 u2 u3 u4 u5 u6 u7:aB} {l:List aB} (h:BlkIs w g t (u0 :: u1 :: u2 :: u3 :: u4 :: u5 :: u6 :: u7 :: l)):w.cell? ⟨g,0,none⟩=some u0/\w.cell? ⟨g,1,none⟩=some u1/\w.cell? ⟨g,2,none⟩=some u2/\w.cell? ⟨g,3,none⟩=some u3/\w.cell? ⟨g,4,none⟩=some u4/\w.cell? ⟨g,5,none⟩=some u5/\w.cell? ⟨g,6,none⟩=some u6/\w.cell? ⟨g,7,none⟩=some u7:=⟨h.cell 0,h.cell 1,h.cell 2,h.cell 3,h.cell 4,h.cell 5,h.cell 6,h.cell 7⟩
theorem BlkIs.C9 {u0 u1 u2 u3 u4 u5 u6 u7 u8:aB} {l:List aB} (h:BlkIs w g t (u0 :: u1 :: u2 :: u3 :: u4 :: u5 :: u6 :: u7 :: u8 :: l)):w.cell? ⟨g,0,none⟩=some u0/\w.cell? ⟨g,1,none⟩=some u1/\w.cell? ⟨g,2,none⟩=some u2/\w.cell? ⟨g,3,none⟩=some u3/\w.cell? ⟨g,4,none⟩=some u4/\w.cell? ⟨g,5,none⟩=some u5/\w.cell? ⟨g,6,none⟩=some u6/\w.cell? ⟨g,7,none⟩=some u7/\w.cell? ⟨g,8,none⟩=some u8:=⟨h.cell 0,h.cell 1,h.cell 2,h.cell 3,h.cell 4,h.cell 5,h.cell 6,h.cell 7,h.cell 8⟩
theorem BlkIs.C10 {u0 u1 u2 u3 u4 u5 u6 u7 u8 u9:aB} {l:List aB} (h:BlkIs w g t (u0 :: u1 :: u2 :: u3 :: u4 :: u5 :: u6 :: u7 :: u8 :: u9 :: l)):w.cell? ⟨g,0,none⟩=some u0/\w.cell? ⟨g,1,none⟩=some u1/\w.cell? ⟨g,2,none⟩=some u2/\w.cell? ⟨g,3,none⟩=some u3/\w.cell? ⟨g,4,none⟩=some u4/\w.cell? ⟨g,5,none⟩=some u5/\w.cell? ⟨g,6,none⟩=some u6/\w.cell? ⟨g,7,none⟩=some u7/\w.cell? ⟨g,8,none⟩=some u8/\w.cell? ⟨g,9,none⟩=some u9:=⟨h.cell 0,h.cell 1,h.cell 2,h.cell 3,h.cell 4,h.cell 5,h.cell 6,h.cell 7,h.cell 8,h.cell 9⟩
theorem BlkIs.C15 {u0 u1 u2 u3 u4 u5 u6 u7 u8 u9 u10 u11 u12 u13 u14:aB} {l:List aB} (h:BlkIs w g t (u0 :: u1 :: u2 :: u3 :: u4 :: u5 :: u6 :: u7 :: u8 :: u9 :: u10 :: u11 :: u12 :: u13 :: u14 :: l)):w.cell? ⟨g,0,none⟩=some u0/\w.cell? ⟨g,1,none⟩=some u1/\w.cell? ⟨g,2,none⟩=some u2/\w.cell? ⟨g,3,none⟩=some u3/\w.cell? ⟨g,4,none⟩=some u4/\w.cell? ⟨g,5,none⟩=some u5/\w.cell? ⟨g,6,none⟩=some u6/\w.cell? ⟨g,7,none⟩=some u7/\w.cell? ⟨g,8,none⟩=some u8/\w.cell? ⟨g,9,none⟩=some u9/\w.cell? ⟨g,10,none⟩=some u10/\w.cell? ⟨g,11,none⟩=some u11/\w.cell? ⟨g,12,none⟩=some u12/\w.cell? ⟨g,13,none⟩=some u13/\w.cell? ⟨g,14,none⟩=some u14:=⟨h.cell 0,h.cell 1,h.cell 2,h.cell 3,h.cell 4,h.cell 5,h.cell 6,h.cell 7,h.cell 8,h.cell 9,h.cell 10,h.cell 11,h.cell 12,h.cell 13,h.cell 14⟩
end
theorem aG1 {w:World} {g:Nat} (t:aC) (l:List aB) (h:g=w.heap.size):BlkIs (w.alloc (.cells l.toArray t)) g t l:=by subst h;exact World.alloc_heap_new w _
theorem bB6 (w:World) (c0:List aB) (t0:aC):∃v,Hid (v.heap.size=w.heap.size+1)/\Hid (v=(w.alloc (.cells c0.toArray t0)))/\Hid (Below w.heap.size w v)/\Hid (BlkIs v (w.heap.size) t0 c0):=
 ⟨_,hid (by simp only[aA]),hid rfl,hid ((Below.refl w.heap.size w).alloc (by(try simp only[aA]);omega) _),hid (aG1 _ _ rfl)⟩
theorem aNb (w:World) (c0:List aB) (t0:aC) (c1:List aB) (t1:aC):∃v,Hid (v.heap.size=w.heap.size+1+1)/\Hid (v=((w.alloc (.cells c0.toArray t0)).alloc (.cells c1.toArray t1)))/\Hid (Below w.heap.size w v)/\Hid (BlkIs v (w.heap.size) t0 c0)/\Hid (BlkIs v (w.heap.size+1) t1 c1):=
 ⟨_,hid (by simp only[aA]),hid rfl,hid (((Below.refl w.heap.size w).alloc (by(try simp only[aA]);omega) _).alloc (by(try simp only[aA]);omega) _),hid ((aG1 _ _ rfl).alloc _),hid (aG1 _ _ (by simp only[aA]))⟩
theorem bEr (w:World) (c0:List aB) (t0:aC) (c1:List aB) (t1:aC) (c2:List aB) (t2:aC):∃v,Hid (v.heap.size=w.heap.size+1+1+1)/\Hid (v=(((w.alloc (.cells c0.toArray t0)).alloc (.cells c1.toArray t1)).alloc (.cells c2.toArray t2)))/\Hid (Below w.heap.size w v)/\Hid (BlkIs v (w.heap.size) t0 c0)/\Hid (BlkIs v (w.heap.size+1) t1 c1)/\Hid (BlkIs v (w.heap.size+1+1) t2 c2):=
 ⟨_,hid (by simp only[aA]),hid rfl,hid ((((Below.refl w.heap.size w).alloc (by(try simp only[aA]);omega) _).alloc (by(try simp only[aA]);omega) _).alloc (by(try simp only[aA]);omega) _),hid (((aG1 _ _ rfl).alloc _).alloc _),hid ((aG1 _ _ (by simp only[aA])).alloc _),hid (aG1 _ _ (by simp only[aA]))⟩
theorem bEq (w:World) (c0:List aB) (t0:aC) (c1:List aB) (t1:aC) (c2:List aB) (t2:aC) (c3:List aB) (t3:aC):∃v,Hid (v.heap.size=w.heap.size+1+1+1+1)/\Hid (v=((((w.alloc (.cells c0.toArray t0)).alloc (.cells c1.toArray t1)).alloc (.cells c2.toArray t2)).alloc (.cells c3.toArray t3)))/\Hid (Below w.heap.size w v)/\Hid (BlkIs v (w.heap.size) t0 c0)/\Hid (BlkIs v (w.heap.size+1) t1 c1)/\Hid (BlkIs v (w.heap.size+1+1) t2 c2)/\Hid (BlkIs v (w.heap.size+1+1+1) t3 c3):=
 ⟨_,hid (by simp only[aA]),hid rfl,hid (((((Below.refl w.heap.size w).alloc (by(try simp only[aA]);omega) _).alloc (by(try simp only[aA]);omega) _).alloc (by(try simp only[aA]);omega) _).alloc (by(try simp only[aA]);omega) _),hid ((((aG1 _ _ rfl).alloc _).alloc _).alloc _),hid (((aG1 _ _ (by simp only[aA])).alloc _).alloc _),hid ((aG1 _ _ (by simp only[aA])).alloc _),hid (aG1 _ _ (by simp only[aA]))⟩
end
end Go.Proofs.YtmhpfoicloojcaaGreatDoor
