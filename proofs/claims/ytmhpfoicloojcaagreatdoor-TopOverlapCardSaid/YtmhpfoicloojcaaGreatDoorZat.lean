/- Leaf, Node, Chain; left. -/
import Derived.Test.YtmhpfoicloojcaaGreatDoorZap
import Derived.Test.YtmhpfoicloojcaaGreatDoorZShelf
set_option linter.all false
namespace Go.Proofs.YtmhpfoicloojcaaGreatDoor
set_option maxRecDepth 100000
set_option maxHeartbeats 16000000
section
open Go.Proofs.Tryz
open Go Go.RowKit
theorem aQ8:∀ls:List (List UInt8),Lib.join ls []=ls.flatten:=by
 intro ls
 induction ls with
 | nil=>rfl
 | cons a t ih=>cases t <;> simp_all [Lib.join]
abbrev str (l:List UInt8):ByteArray:=⟨l.toArray⟩
theorem aYx (ls:List (List UInt8)):((ls.map str).map (·.data.toList)).flatten=ls.flatten:=by
 rw[List.map_map];congr 1;simp[Function.comp_def]
theorem aM3 (a b:List UInt8):str a++str b=str (a++b):=by
 apply ByteArray.ext;simp
theorem aLk (b bk o c:Nat) (mark:List UInt8) (ls:List (List UInt8)) (w:World) (hm:w.cell? (b,0)=some (.string (str mark))) (hml:mark.length<=8)
 (hcells:∀(j:Nat) x,ls[j]? =some x->w.cell? (bk,o+j)=some (.string (str x))) (hbk:bk<w.heap.size) (hN:ls.length<=c) (hc:c<=100) (hlen:ls.flatten.length<=900000) (hR:aA4 w) :
 Calls prog 285 #[.slice (some (bk,o)) ls.length c,.pointer (some (b,0))] w fun e w'=>e= .returned (.string (str (aTj (mark++ls.flatten))))/\Below w w w':=by
 obtain⟨F,l⟩:=ex_ ls.flatten;rw[<-l]at hlen⊢
 have u:∀W:World,W.cell? (b,0)=some (.string (str mark))->Below w w W->Calls prog 286 #[.slice (some (bk,o)) ls.length c,.string ⟨#[]⟩] W fun e w'=>e= .returned (.string (str F))/\w'.cell? (b,0)=some (.string (str mark))/\Below w w w':=by
  intro W g a;have i:=aYx ls;rw[<-l]at i
  have h:=Tryz.strings_Join bk o c (ls.map str) ⟨#[]⟩ W (by
   intro j x d;rw[List.getElem?_map]at d;cases m:ls[j]? with
   | none=>rw[m]at d;cases d
   | some y=>
     rw[m]at d;cases d
     exact(a.cell (p:=⟨bk,o+j,none⟩) hbk).trans (hcells j y m)) (Nat.lt_of_lt_of_le hbk a.size) (by rw[List.length_map];omega) (by rw[List.length_map];exact hN) (by rw[aQ8,i];omega)
  rw[aQ8,i,List.length_map]at h;exact h.mono fun e w' ⟨k,f⟩=>⟨k,(f.cell (aAl g)).trans g,Below.next a f⟩
 have t:∀W:World,W.cell? (b,0)=some (.string (str mark))->Below w w W->Calls prog 221 #[.string (str (mark++F))] W fun e w'=>e= .returned (.string (str (aTj (mark++F))))/\w'.cell? (b,0)=some (.string (str mark))/\Below w w w':=by
  intro W g a;have h:=aZs (str (mark++F)) W (by rw[aH3,List.length_append];omega) (hR.later a);exact h.mono fun e w' ⟨k,f⟩=>⟨k,(f.cell (aAl g)).trans g,Below.next a f⟩
 clear l;go_enter func285,ntmps285
 go_upto_region 1 with fail
 have v:=Below.refl w.heap.size w;clear hcells hR;have q:¬9223372036854775807<mark.length+F.length:=by omega
 go_region_held3 (fun w' => w'.cell? (b, 0) = some (.string (str mark)) /\ Below w w w') (refine ⟨?_, ?_⟩ <;> first | assumption | exact Below.drew (by assumption) | (simp [*]; done))
   (first
     | (go_at_call 286;refine(u _ ?_ ?_).mono ?_;(first|assumption|(simp[*];done));(first|assumption|exact Below.drew (by assumption));rintro e r ⟨rfl,s,n⟩)
     | (go_at_call 221;rw[aM3];refine(t _ ?_ ?_).mono ?_;(first|assumption|(simp[*];done));(first|assumption|exact Below.drew (by assumption));rintro e r ⟨rfl,s,n⟩))
 go_wp2_with fail
 go_ret;exact⟨rfl,n⟩
theorem aOc (mark:List UInt8) (w:World) :
 Calls prog 247 #[.string (str mark)] w fun e w'=>e= .returned (.func (.func 285) #[] #[.pointer (some (w,0))])/\w'=w.alloc (.cells #[.string (str mark)] 9):=by
 go_enter func247,ntmps247
 go_wp2_with fail
 go_ret;exact⟨rfl,rfl⟩
theorem aMa (s:ByteArray):str s.data.toList=s:=by simp[str]
theorem bA7 (s:ByteArray) (w:World) (hs:s.size<=900000) (hR:aA4 w) :
 Calls prog 219 #[.string s] w fun e w'=>e= .returned (.string (str (bA8 s.data.toList)))/\Below w w w':=by
 go_enter func219,ntmps219
 go_wp2_with fail
 refine(aOc [0] w).mono ?_;rintro e i ⟨rfl,rfl⟩;go_wp2_with fail
 have d:((w.alloc (.cells #[.string (str [0])] 9)).alloc (.cells #[.string s] 9)).cell? (w,0)=some (.string (str [0])):=aEw _ _ _ _ _ _ _ rfl rfl;refine(aLk w.heap.size (w.heap.size+1) 0 1 [0] [s.data.toList] _ d (by decide) ?_ (by simp) (Nat.le_refl _) (by decide) (by simp;omega) ((hR.alloc _).alloc _)).mono ?_
 . intro j x a;have h:=aCu (w.alloc (.cells #[.string (str [0])] 9)) 9 #[.string s] (w.heap.size+1) j;rw[Nat.zero_add]
   match j,a with
   | 0,a=>cases a;rw[h _ (by simp) rfl,aMa]
 rintro e c ⟨rfl,g⟩;have b:Below w w c:=Below.next (((Below.refl _ w).alloc (Nat.le_refl _) _).alloc (by simp) _) g;have f:[0]++[s.data.toList].flatten=0 :: s.data.toList:=by simp
 rw[f];go_wp2_with fail
 go_ret;exact⟨rfl,b⟩
theorem aUd (s t:ByteArray) (w:World) (hs:s.size+t.size<=900000) (hR:aA4 w) :
 Calls prog 220 #[.string s,.string t] w fun e w'=>e= .returned (.string (str (aHe s.data.toList t.data.toList)))/\Below w w w':=by
 go_enter func220,ntmps220
 go_wp2_with fail
 refine(aOc [1] w).mono ?_;rintro e i ⟨rfl,rfl⟩;go_wp2_with fail
 have f:((w.alloc (.cells #[.string (str [1])] 9)).alloc (.cells #[.string s,.string t] 9)).cell? (w,0)=some (.string (str [1])):=aEw _ _ _ _ _ _ _ rfl rfl;refine(aLk w.heap.size (w.heap.size+1) 0 2 [1] [s.data.toList,t.data.toList] _ f (by decide) ?_ (by simp) (Nat.le_refl _) (by decide) (by simp;omega) ((hR.alloc _).alloc _)).mono ?_
 . intro j x a;have c:=aCu (w.alloc (.cells #[.string (str [1])] 9)) 9 #[.string s,.string t] (w.heap.size+1) j;rw[Nat.zero_add]
   match j,a with
   | 0,a=>cases a;rw[c _ (by simp) rfl,aMa]
   | 1,a=>cases a;rw[c _ (by simp) rfl,aMa]
 rintro e d ⟨rfl,h⟩;have b:Below w w d:=Below.next (((Below.refl _ w).alloc (Nat.le_refl _) _).alloc (by simp) _) h;have g:[1]++[s.data.toList,t.data.toList].flatten=1 ::(s.data.toList++t.data.toList):=by simp
 rw[g];go_wp2_with fail
 go_ret;exact⟨rfl,b⟩
theorem bA6 (n:Nat) (h2:2<=n) (hn:n<=9223372036854775807) (w:World) :
 Calls prog 166 #[n] w fun e w'=>e= .returned (.int .i64 (aCy n))/\w'=w:=by
 obtain⟨M,f⟩:=ex_ (n-1);obtain⟨L,c⟩:=ex_ M.log2;have b:=Nat.log2_self_le (n:=M) (by omega)
 have g:L<63:=by
  apply Nat.lt_of_not_le;intro h;rw[c]at h;have:=Nat.pow_le_pow_right (n:=2) (by omega) h;omega
 have d:Lib.bitLen M=L+1:=by
  obtain⟨k,j,i⟩:=Lib.bitLenAux_bounds 64 M (by omega) (by omega);have:M.log2=Lib.bitLenAux 64 M-1:=(Nat.log2_eq_iff (by omega)).2 ⟨j,by rw[Nat.sub_add_cancel k];exact i⟩;unfold Lib.bitLen;omega
 have s:(n:Int)-1=(M:Int):=by omega
 have r:(0:Int)<=(M:Int):=by omega
 have a:aCy n=2 ^ L:=by unfold aCy;rw[<-f,c]
 rw[a];have l:2 ^ L<=4611686018427387904:=Nat.le_trans (Nat.pow_le_pow_right (n:=2) (by omega) (show L<=62 by omega)) (by decide);have o:((2 ^ L:Nat):Int)=(2:Int) ^ L:=Int.natCast_pow 2 L;have m:(0:Int)<(2:Int) ^ L:=by have:=Nat.two_pow_pos L;omega
 rw[o];clear a c b f;have p:=hid d;clear d;go_enter func166,ntmps166
 go_wp2_with fail
 refine(Tryz.bits_Len (M:Int) w (by omega) (by omega)).mono ?_;rintro e q ⟨rfl,rfl⟩;rw[Int.toNat_natCast,p.out];go_wp2_with fail
 go_ret;exact⟨rfl,rfl⟩
end
end Go.Proofs.YtmhpfoicloojcaaGreatDoor
