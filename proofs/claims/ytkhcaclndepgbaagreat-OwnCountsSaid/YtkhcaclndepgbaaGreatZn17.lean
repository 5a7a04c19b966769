/- Package base: numbers, part, read, rooted. · A map from small numbers to values of any kind in memory. · tally.Of of counts that stand in memory. (Lines of XTOfW.) -/
import Derived.Test.YtkhcaclndepgbaaGreatZn16
set_option linter.unusedVariables false
set_option linter.unusedSimpArgs false
set_option maxRecDepth 100000
set_option maxHeartbeats 20000000
namespace Go.Proofs.YtkhcaclndepgbaaGreat
open Go.RowKit
def fnL (n:Nat) (l:Nat->Nat):List Nat:=(List.range n).map l
theorem fnL_len (n:Nat) (l:Nat->Nat):(fnL n l).length=n:=by simp [fnL]
theorem fnL_get {n:Nat} {l:Nat->Nat} {i:Nat} (h:i<n):(fnL n l).getD i 0=l i:=by simp [fnL,h]
theorem fnL_succ (n:Nat) (l:Nat->Nat):fnL (n+1) l=fnL n l++[l n]:=by simp [fnL,List.range_succ]
theorem ownRow_mono {W:World} {base base' size n:Nat} {e:TypeId} {v:Value} {xs:List Value} (h:W.ownsRow base e size v n xs) (hb:base'<=base):W.ownsRow base' e size v n xs:=by
 refine ⟨h.1,?_⟩;rcases h.2 with h' | ⟨g,cap,cur,rfl,hg,r⟩
 ·exact .inl h'
 ·exact .inr ⟨g,cap,cur,rfl,zLt hb hg,r⟩
def u16Vs (n:Nat) (l:Nat->Nat):List Value:=(List.range n).map fun i => .int .u16 (l i:Int)
theorem u16Vs_succ (n:Nat) (l:Nat->Nat):u16Vs (n+1) l=u16Vs n l++[.int .u16 (l n:Int)]:=by simp [u16Vs,List.range_succ]
theorem u16In_own {w:World} {base n:Nat} {v:Value} {l:Nat->Nat} (h:w.ownsRow base 33 1 v n (u16Vs n l)) (hl:∀ i,i<n->l i<65536):∃ a c,v = .slice a n c/\n<=c/\c<=maxLen/\U16In w a n l:=by
 obtain ⟨a,c,rfl,h1,h2⟩:=zos h;refine ⟨a,c,rfl,h1,h2,hl,fun h0=>?_⟩;obtain ⟨g,c',e,_,_,_,hg,hc⟩:=zol h h0;injection e with e _ _;subst e;refine ⟨g,0,rfl,hg,fun i hi=>?_⟩;rw [Nat.zero_add,hc i (by omega)];simp [u16Vs,hi]
theorem baNumbers_at {w:World} {g o c n:Nat} {a:Option Addr} {l:Nat->Nat} (hn:n<=5000) (hc:n<=c) (hl:∀ i,i<n->l i<65536) (ha:0<n->a=some ⟨g,o,none⟩/\g<w.heap.size/\∀ i,i<n->w.cell? ⟨g,o+i,none⟩=some (.int .i64 (l i:Int))) :
  Calls Tryz.prog 101 #[.slice a n c] w fun e w'=>∃ v,e = .returned v/\w'.ownsRow w.heap.size 33 1 v n (u16Vs n l)/\Chg [] w w':=by
 have HA:=zh ha;have HL:=zh hl;clear ha hl;go_enter Tryz.func101,Tryz.ntmps101;go_wp2_with fail
 go_loopw [3,8] (fun v s wr=>∃ k:Nat,k<=n/\s = .int .i64 (k:Int)/\Hid (wr.ownsRow w.heap.size 33 1 v k (u16Vs k l)/\Chg [] w wr)) (fun _ s _=>n - (intOf s).toNat)
 case atStart=>exact ⟨0,Nat.zero_le _,rfl,⟨World.ownsRow_nil _ _ _ _,Chg.refl _ _⟩⟩
 case round =>
  obtain ⟨k,hk,rfl,hH⟩:=hrel;have HOW:=zh hH.out.1;have HCW:=zh hH.out.2;have hsz:=hH.out.2.size;have HBK:=zh (fun k hk=>(hH.out.1.lt k hk).1:∀ k,(Value.ownBlock _=some k)->w.heap.size<=k);by_cases hlt:k<n
  ·obtain ⟨rfl,hg,hcells⟩:=HA.out (by omega)
   have hcell:=(hH.out.2.cell (p:=⟨g,o+k,none⟩) hg (by simp)).trans (hcells k hlt);have hv:=HL.out k hlt;obtain ⟨x,hx⟩:∃ x,x=l k:=⟨_,rfl⟩;rw [<- hx] at hcell hv;have hw16:IntKind.u16.wrap (x:Int)=(x:Int):=by rw [IntKind.wrap_u16];omega
   have HX:=zh hx;clear hcells hH hx;have HN:=zh (znb wr (.cells #[.int .u16 (x:Int)] 33));have i1:(k:Int)<(n:Int):=by omega
   go_wp2_with (at_builtin;refine wpList_app1 _ rfl _ _ 163 rfl w.heap.size 33 (.int .u16 0) 2 Tryz.underlying163 infoU16 rfl _ _ _ rfl (own_chgT HOW.out ((Chg.refl [] wr).alloc _) (by simp)) wr.heap.size 1 (.int .u16 (x:Int)) rfl (zcb HN.out 0) rfl (by omega) (by omega) (by simp;omega) ?_;intro v' w2 hown2 hg2;have HOWN2:=zh hown2;have HC2:=zh ((HCW.out.alloc _).grown hg2 (fun k hk => .inr (HBK.out k hk)));clear hown2 hg2)
   go_roundw
   case rel=>exact ⟨k+1,by omega,by go_num,⟨by rw [u16Vs_succ,<- HX.out];exact HOWN2.out,HC2.out⟩⟩
   case measure=>simp [intOf];omega
  ·obtain rfl:k=n:=by omega
   clear hH;go_wp2_with fail;go_ret;exact ⟨_,rfl,HOW.out,HCW.out⟩
theorem baPart_at {w:World} {g c n i:Nat} (hi:61*i<n) (hn:n<=5000) (hc:n<=c) (hm:c<=maxLen) :
  Calls Tryz.prog 145 #[.slice (some ⟨g,0,none⟩) n c,.int .i64 (i:Int)] w fun e w'=>e = .returned (.slice (some ⟨g,61*i,none⟩) (min 61 (n - 61*i)) (c - 61*i))/\w=w':=by
 have e1:(i:Int)*61=((61*i:Nat):Int):=by omega
 have e2:min (((i:Int)+1)*61) (n:Int)=((61*i+min 61 (n - 61*i):Nat):Int):=by omega
 have b1:((61*i:Nat):Int)<=((61*i+min 61 (n - 61*i):Nat):Int):=by omega
 have b2:((61*i+min 61 (n - 61*i):Nat):Int)<=(c:Int):=by omega
 have b3:¬ (61*i=c):=by omega
 have e3:61*i+min 61 (n - 61*i) - 61*i=min 61 (n - 61*i):=by omega
 generalize min 61 (n - 61*i)=m at *;go_enter Tryz.func145,Tryz.ntmps145;go_wp2_with fail;rw [e3];go_ret;exact ⟨rfl,rfl⟩
theorem baRead_at {w:World} {p bb cap at' kind n:Nat} {wv:Value} {D:Dk} {l:Nat->Nat} (h:DiskRd w p bb cap wv D) (ha:at'<D.n) (hk:kind=4∨kind=5) (hn:n<=61) (hl:∀ i,i<n->l i<65536) (hf:∀ i,i<128->D.rd at' i=pageI kind n l i) :
  Calls Tryz.prog 152 #[.pointer (some ⟨p,0,none⟩),.int .u8 (kind:Int),.int .i64 (at':Int),.int .i64 (n:Int)] w fun e w'=>∃ v,e = .returned (.tuple #[v,.int .i64 0])/\w'.ownsRow w.heap.size 3 1 v n (intVs (fnL n l))/\Chg [] w w':=by
 have cr:=dRead_at h ha;have hle:=h.rd_le ha;have CR:=zh cr;have HF:=zh (zA hle hf);have HL:=zh hl;clear cr hle hf h hl;go_enter Tryz.func152,Tryz.ntmps152;go_wp2_with fail;refine CR.out.mono ?_;clear CR;rintro e w1 ⟨rfl,hb1,hc1⟩;have hby:BytesAt w1 w.heap.size 0 128 (D.rd at'):=fun i hi=>⟨by rw [Nat.zero_add,zcb hb1,u8s_get hi],HF.out.1 i hi⟩;have cd:=ixDecode_at hk hn HL.out hby (zLr _) (by omega) HF.out.2;have CD:=zh cd;have HC1:=zh hc1;clear cd hby hb1 hc1 hk;go_wp2_with fail;refine CD.out.mono ?_;clear CD;rintro e w2 ⟨g,c,rfl,q1,q2,q3,q4,q5⟩;have HU:=zh (zA q4 (HC1.out.trans q5));clear q3 q4 q5 HC1;have i0:((n:Int) != (n:Int))=false:=by simp
 go_wp2_with fail
 go_loopw [13,41] (fun v s wr=>∃ k:Nat,k<=n/\s = .int .i64 (k:Int)/\Hid (wr.ownsRow w2.heap.size 3 1 v k (intVs (fnL k l))/\Chg [] w2 wr)) (fun _ s _=>n - (intOf s).toNat)
 case atStart=>exact ⟨0,Nat.zero_le _,by go_num,⟨World.ownsRow_nil _ _ _ _,Chg.refl _ _⟩⟩
 case round =>
  obtain ⟨k,hk,rfl,hH⟩:=hrel;have HOW:=zh hH.out.1;have HCW:=zh hH.out.2;have hsz:=hH.out.2.size;have hsz2:=HU.out.2.size;have HBK:=zh (fun k hk=>(hH.out.1.lt k hk).1:∀ k,(Value.ownBlock _=some k)->w2.heap.size<=k);by_cases hlt:k<n
  ·obtain ⟨g',o,e,hg,hcells⟩:=HU.out.1.2 (by omega)
   injection e with e;injection e with e1 e2;subst e1;subst e2;have hcell:=(hH.out.2.cell (p:=⟨g,0+k,none⟩) hg (by simp)).trans (hcells k hlt);rw [Nat.zero_add] at hcell;have hv:=HL.out k hlt;obtain ⟨x,hx⟩:∃ x,x=l k:=⟨_,rfl⟩;rw [<- hx] at hcell hv;have HX:=zh hx;clear hcells hH hx;have HN:=zh (znb wr (.cells #[.int .i64 (x:Int)] 3));have i1:(k:Int)<(n:Int):=by omega
   go_wp2_with (at_builtin;refine wpList_app1 _ rfl _ _ 27 rfl w2.heap.size 3 (.int .i64 0) 8 Tryz.underlying27 infoInt8 rfl _ _ _ rfl (own_chg HOW.out ((Chg.refl [] wr).alloc _) (by simp)) wr.heap.size 1 (.int .i64 (x:Int)) rfl (zcb HN.out 0) rfl (by omega) (by omega) (by simp;omega) ?_;intro v' w3 hown2 hg2;have HOWN2:=zh hown2;have HC2:=zh ((HCW.out.alloc _).grown hg2 (fun k hk => .inr (HBK.out k hk)));clear hown2 hg2)
   go_roundw
   case rel=>exact ⟨k+1,by omega,by go_num,⟨by rw [fnL_succ,intVs_app,<- HX.out];exact HOWN2.out,HC2.out⟩⟩
   case measure=>simp [intOf];omega
  ·obtain rfl:k=n:=by omega
   clear hH;go_wp2_with fail;refine bodyPost_ret (by simp [results,Tryz.results152,go_sem]) rfl ⟨_,rfl,ownRow_mono HOW.out hsz2,HU.out.2.trans HCW.out⟩
theorem fnL_app {N k:Nat} {l:Nat->Nat} (hk:61*k<=N):fnL (61*k) l++fnL (min 61 (N - 61*k)) (fun j=>l (61*k+j))=fnL (min (61*(k+1)) N) l:=by
 apply List.ext_getElem?;intro i;by_cases h1:i<61*k
 ·rw [List.getElem?_append_left (by rw [fnL_len];exact h1)]
  simp only [fnL,List.getElem?_map,List.getElem?_range h1,List.getElem?_range (show i<min (61*(k+1)) N by omega)]
 ·rw [List.getElem?_append_right (by rw [fnL_len];omega),fnL_len]
  by_cases h2:i<min (61*(k+1)) N
  ·simp only [fnL,List.getElem?_map,List.getElem?_range h2,List.getElem?_range (show i - 61*k<min 61 (N - 61*k) by omega),Option.map_some]
   rw [show 61*k+(i - 61*k)=i by omega]
  ·rw [List.getElem?_eq_none (by rw [fnL_len];omega),List.getElem?_eq_none (by rw [fnL_len];omega)]
theorem baThrough_at {w:World} {p bb cap kind N m cs gs:Nat} {wv:Value} {D:Dk} {l A:Nat->Nat} (h:DiskRd w p bb cap wv D) (hk:kind=4∨kind=5) (hN:N<=4096) (hm:m=pg N) (hcs:m<=cs) (hl:∀ i,i<N->l i<65536) (hg:gs<w.heap.size)
  (ha:∀ i,i<m->w.cell? ⟨gs,i,none⟩=some (.int .i64 (A i:Int))/\2<=A i/\A i<D.n/\∀ j,j<128->D.rd (A i) j=rowP kind N l i j) :
  Calls Tryz.prog 99 #[.pointer (some ⟨p,0,none⟩),.int .u8 (kind:Int),.slice (some ⟨gs,0,none⟩) m cs,.int .i64 (N:Int)] w fun e w'=>∃ v,e = .returned (.tuple #[v,.int .i64 0])/\w'.ownsRow w.heap.size 3 1 v N (intVs (fnL N l))/\Chg [] w w':=by
 have H:=zh h;have HA:=zh ha;have HL:=zh hl;have HK:=zh hk;have HM:=zh hm;clear h ha hl hk hm;go_enter Tryz.func99,Tryz.ntmps99;go_wp2_with fail
 go_loopw [10,17] (fun v s wr=>∃ k:Nat,k<=m/\s = .int .i64 (k:Int)/\Hid (wr.ownsRow w.heap.size 3 1 v (min (61*k) N) (intVs (fnL (min (61*k) N) l))/\Chg [] w wr)) (fun _ s _=>m - (intOf s).toNat)
 case atStart=>exact ⟨0,Nat.zero_le _,by go_num,⟨by rw [Nat.mul_zero,Nat.zero_min];exact World.ownsRow_nil _ _ _ _,Chg.refl _ _⟩⟩
 case round =>
  obtain ⟨k,hkm,rfl,hH⟩:=hrel;have HOW:=zh hH.out.1;have HCW:=zh hH.out.2;have hsz:=hH.out.2.size;have HBK:=zh (fun k hk=>(hH.out.1.lt k hk).1:∀ k,(Value.ownBlock _=some k)->w.heap.size<=k);by_cases hlt:k<m
  ·obtain ⟨hc0,h2,hn,hpage⟩:=HA.out k hlt
   have hcell:=(hH.out.2.cell (p:=⟨gs,k,none⟩) hg (by simp)).trans hc0;have hkN:61*k<N:=by have:=HM.out;unfold pg at this;omega
   have HD:=H.out.chg hH.out.2 (by simp) (by simp) (by simp);have cl:=rdLen_at HD;have cr:=baRead_at (at':=A k) (kind:=kind) (n:=min 61 (N - 61*k)) (l:=fun j=>l (61*k+j)) HD hn HK.out (by omega) (fun j hj=>HL.out _ (by omega)) hpage;obtain ⟨x,hx⟩:∃ x,x=A k:=⟨_,rfl⟩;obtain ⟨q,hq⟩:∃ q,q=min 61 (N - 61*k):=⟨_,rfl⟩;rw [<- hx] at hcell hn h2 cr;rw [<- hq] at cr;have CR:=zh (zA cl cr);have hmi:min ((N:Int) - (k:Int)*61) 61=(q:Int):=by omega
   have i1:(k:Int)<(m:Int):=by omega
   have i2:¬ (x:Int)<2:=by omega
   have i3:¬ (D.n:Int)<=(x:Int):=by omega
   have HQ:=zh hq;clear hc0 hpage hH HD cl cr hx hq;go_wp2_with fail;refine CR.out.1.mono ?_;rintro e w' ⟨rfl,rfl⟩;go_wp2_with fail;refine CR.out.2.mono ?_;clear CR;rintro e w1 ⟨v1,rfl,ho1,hc1⟩;have hqp:0<q:=by have:=HQ.out;omega
   have hsl:=SlI.of_own (l:=fnL q (fun j=>l (61*k+j))) (by rw [fnL_len];exact ho1);obtain ⟨g1,c1,rfl,_⟩:=zol ho1 hqp;have ho:=own_chg HOW.out hc1 (by simp);have HS:=zh (zA ho1 (zA hsl (zA ho hc1)));clear ho1 hsl ho hc1;go_wp2_with (at_builtin;refine wpList_appI rfl _ _ rfl w.heap.size _ (fnL (min (61*k) N) l) rfl (by rw [fnL_len];exact HS.out.2.2.1) g1 c1 (fnL q (fun j=>l (61*k+j))) (by rw [fnL_len];rfl) (by rw [fnL_len];exact HS.out.2.1) (by rw [fnL_len,fnL_len];omega) (by have:=HS.out.2.2.2.size;omega) ?_;intro v' w3 hown2 hg2;have HOWN2:=zh hown2;have HC2:=zh (((HCW.out.trans HS.out.2.2.2)).grown hg2 (fun k hk => .inr (HBK.out k hk)));clear hown2 hg2)
   go_roundw
   case rel =>
    refine ⟨k+1,by omega,by go_num,⟨?_,HC2.out⟩⟩;have h:=HOWN2.out;rw [HQ.out,Nat.min_eq_left (Nat.le_of_lt hkN),fnL_app (Nat.le_of_lt hkN),fnL_len] at h;exact h
   case measure=>simp [intOf];omega
  ·obtain rfl:k=m:=by omega
   clear hH;go_wp2_with fail;have eN:min (61*k) N=N:=by have:=HM.out;unfold pg at this;omega
   have ho:=HOW.out;rw [eN] at ho;refine bodyPost_ret (by simp [results,Tryz.results99,go_sem]) rfl ⟨_,rfl,ho,HCW.out⟩
def rootK (S:Sup) (m:Nat) (A:Nat->Nat) (k:Nat):Sup:=⟨S.gen,S.blocks,fun i=>if i<k then (if i<m then A i else 0) else S.roots i,S.marks⟩
def rootN (S:Sup) (m:Nat) (A:Nat->Nat) (k x:Nat):Sup:=⟨S.gen,S.blocks,fun i=>if i=k then x else (rootK S m A k).roots i,S.marks⟩
theorem root_val {g b:Nat} {r r' u:Nat->Nat} {i:Nat} (h:2<=i->i<10->r (i - 2)=r' (i - 2)):(Sup.mk g b r u).valS i=(Sup.mk g b r' u).valS i:=by
 unfold Sup.valS;by_cases h0:i=0
 ·rw [if_pos h0,if_pos h0]
 ·rw [if_neg h0,if_neg h0]
  by_cases h1:i=1
  ·rw [if_pos h1,if_pos h1]
  ·rw [if_neg h1,if_neg h1]
   by_cases h2:i<10
   ·rw [if_pos h2,if_pos h2];exact h (by omega) h2
   ·rw [if_neg h2,if_neg h2]
theorem root_at (g b:Nat) (r u:Nat->Nat) {k:Nat} (hk:k<8):(Sup.mk g b r u).valS (2+k)=r k:=by
 unfold Sup.valS;rw [if_neg (by omega),if_neg (by omega),if_pos (by omega),Nat.add_sub_cancel_left]
theorem mkV_root {k x:Nat} (hk:k<8):mkV (2+k) x = .int .u32 (x:Int):=by unfold mkV;rw [if_neg (by omega),if_pos (by omega)]
theorem rootN_first {S:Sup} {m:Nat} {A:Nat->Nat} {k:Nat} (hk:k<8) (x:Nat):(rootK S m A k).row.setIfInBounds (2+k) (.int .u32 (x:Int))=(rootN S m A k x).row:=by
 have:=row_set (S:=rootK S m A k) (S':=rootN S m A k x) (k:=2+k) (by omega) (fun i hi hne=>root_val (fun h2 h10=>if_neg (by omega)));rw [show (rootN S m A k x).valS (2+k)=x from (root_at _ _ _ _ hk).trans (if_pos rfl),mkV_root hk] at this;exact this
theorem rootN_again {S:Sup} {m:Nat} {A:Nat->Nat} {k:Nat} (hk:k<8) (x y:Nat):(rootN S m A k x).row.setIfInBounds (2+k) (.int .u32 (y:Int))=(rootN S m A k y).row:=by
 have:=row_set (S:=rootN S m A k x) (S':=rootN S m A k y) (k:=2+k) (by omega) (fun i hi hne=>root_val (fun h2 h10=>by rw [if_neg (by omega),if_neg (by omega)]));rw [show (rootN S m A k y).valS (2+k)=y from (root_at _ _ _ _ hk).trans (if_pos rfl),mkV_root hk] at this;exact this
theorem rootN_next {S:Sup} {m:Nat} {A:Nat->Nat} {k x:Nat} (hx:x=if k<m then A k else 0):(rootN S m A k x).row=(rootK S m A (k+1)).row :=
 row_congr fun i hi=>root_val fun h2 h10=>by
  show (if i - 2=k then x else if i - 2<k then (if i - 2<m then A (i - 2) else 0) else S.roots (i - 2))=if i - 2<k+1 then (if i - 2<m then A (i - 2) else 0) else S.roots (i - 2)
  by_cases e:i - 2=k
  ·rw [if_pos e,if_pos (show i - 2<k+1 by omega),hx,e]
  ·rw [if_neg e]
   by_cases e2:i - 2<k
   ·rw [if_pos e2,if_pos (show i - 2<k+1 by omega)]
   ·rw [if_neg e2,if_neg (show ¬ i - 2<k+1 by omega)]
theorem baRooted_at {w:World} {S:Sup} {m cs:Nat} {a:Option Addr} {A:Nat->Nat} (hm:m<=2) (hc:m<=cs) (ha:∀ i,i<m->∃ g,a=some ⟨g,0,none⟩/\g<w.heap.size/\w.cell? ⟨g,i,none⟩=some (.int .i64 (A i:Int))/\A i<4294967296) :
  Calls Tryz.prog 81 #[.agg S.row,.slice a m cs] w fun e w'=>e = .returned (.agg (rootK S m A 2).row)/\Chg [] w w':=by
 have HA:=zh ha;clear ha;have k0:=znd w (.cells S.row 49) (.cells zSup 49);have k1:=znc w (.cells S.row 49) (.cells zSup 49);have hcC:=((Chg.refl [] w).alloc (.cells S.row 49)).alloc (.cells zSup 49);obtain ⟨W0,hW0⟩:∃ W0,W0=(w.alloc (.cells S.row 49)).alloc (.cells zSup 49):=⟨_,rfl⟩;rw [<- hW0] at k0 k1 hcC;rw [<- supZ_row] at k1;have hr0:S.row=(rootK S m A 0).row:=row_congr fun i hi=>root_val (r:=S.roots) (fun _ _=>by rw [if_neg (by omega)]);rw [hr0] at k0;have HK:=zh (zA k0 (zA k1 hcC));unfold zSup at hW0;clear k0 k1 hcC hr0;go_enter Tryz.func81,Tryz.ntmps81;go_upto_region 1 with fail;rw [<- hW0];clear hW0;obtain ⟨xb,hxb⟩:∃ xb,xb=w.heap.size:=⟨_,rfl⟩;rw [<- hxb] at HK ⊢;have HXB:=zh hxb;clear hxb;go_wp2_with fail;go_loopg [6] 2 (fun gg s wr=>∃ k:Nat,gg=2 - k/\k<=2/\s = .int .i64 (k:Int)/\Hid (Chg [xb] W0 wr/\wr.heap[xb]?=some (.cells (rootK S m A k).row 49 (0,0))))
 case atStart=>exact ⟨0,rfl,Nat.zero_le _,by go_num,zh ⟨Chg.refl _ _,HK.out.1⟩⟩
 case round =>
  obtain ⟨k,hgg,hk2,rfl,hX⟩:=hrel;by_cases hk:k<2
  ·have c0:=Sup.cell hX.out.2 (i:=2+k) (by omega)
   have f0:=zfb hX.out.2 (2+k);have l0:=zhl hX.out.2;have i1:(k:Int)<2:=by omega
   have i2:(k:Int)<8:=by omega
   have h1:=zsb hX.out.2 (2+k) (.int .u32 ((0:Nat):Int));rw [rootN_first (by omega)] at h1;have hc1:Chg [xb] W0 (wr.setCell ⟨xb,2+k,none⟩ (.int .u32 ((0:Nat):Int))):=hX.out.1.setCell (.inl (by simp)) _;have H1:=zh (zA h1 hc1);have l1:xb<(wr.setCell ⟨xb,2+k,none⟩ (.int .u32 ((0:Nat):Int))).heap.size:=zhl h1;clear hX h1 hc1;go_upto_region 5 with fail;rw [show (0:Int)=((0:Nat):Int) from rfl];generalize wr.setCell ⟨xb,2+k,none⟩ (.int .u32 ((0:Nat):Int))=w1 at *;clear c0 f0 l0;by_cases hkm:k<m
   ·obtain ⟨g,rfl,hg,hcell,hA⟩:=HA.out k hkm
    have hcw:=(HK.out.2.2.cell (p:=⟨g,k,none⟩) hg (by simp)).trans hcell;have hcd:=(H1.out.2.cell (p:=⟨g,k,none⟩) (by show g<W0.heap.size;have:=HK.out.2.2.size;omega) (by simp only [zms];have:=HXB.out;omega)).trans hcw;have c0:=Sup.cell H1.out.1 (i:=2+k) (by omega);have f0:=zfb H1.out.1 (2+k);obtain ⟨x,hx⟩:∃ x,x=A k:=⟨_,rfl⟩;rw [<- hx] at hcd hA;have E1:IntKind.u32.wrap (x:Int)=(x:Int):=by rw [IntKind.wrap_u32];omega
    have h2:=zsb H1.out.1 (2+k) (.int .u32 (x:Int));rw [rootN_again (by omega),rootN_next (by rw [if_pos hkm];exact hx)] at h2;have H2:=zh (zA h2 (H1.out.2.setCell (.inl (by simp)) (.int .u32 (x:Int)) (p:=⟨xb,2+k,none⟩)));have i3:(k:Int)<(m:Int):=by omega
    clear hcw hcell h2 hx;go_wp2_with fail;go_roundg (2 - (k+1))
    case measure=>omega
    case rel=>exact ⟨k+1,rfl,by omega,by go_num,zh ⟨H2.out.2,H2.out.1⟩⟩
   ·have i3:¬ (k:Int)<(m:Int):=by omega
    have h2:=H1.out.1;rw [rootN_next (by rw [if_neg hkm])] at h2;have H2:=zh h2;clear h2;go_wp2_with fail;go_roundg (2 - (k+1))
    case measure=>omega
    case rel=>exact ⟨k+1,rfl,by omega,by go_num,zh ⟨H1.out.2,H2.out⟩⟩
  ·obtain rfl:k=2:=by omega
   have hkr:=(hX.out.1.block (xb+1) (zhl HK.out.2.1) (by simp)).trans HK.out.2.1;have HX:=zh (zA hX.out.1 (zA hX.out.2 hkr));clear hX hkr
   go_wp2_with (first
    | (refine wpList_loadSup (S:=rootK S m A 2) rfl (.tmp 2) rfl (k:=xb) (o:=0) rfl (Sup.cells HX.out.2.1) ?_)
    | (refine wpList_storeRow (t:=49) (T:=49) (b:=xb+1) (o:=0) (n:=18) (N:=18) (V:=supZ.cellV) (U:=(rootK S m A 2).cellV) rfl (.tmp 4) (.tmp 25) rfl rfl rfl HX.out.2.2 (by omega) infoSup (fun i _=>Sup.cell_one _ i) ?_;intro w9 hr9 hc9;have H9:=zh (zA hr9 hc9);clear hr9 hc9))
   have hr9:=H9.out.1;rw [laid_sup] at hr9;refine bodyPost_ret (results_c (a:=4) (by kernel_rfl) rfl (load_sup (Sup.cells hr9))) rfl ⟨rfl,?_⟩;exact HK.out.2.2.then ((HX.out.1.mono (L':=[xb,xb+1]) (by simp)).trans (H9.out.2.mono (by simp))) (fun q hq=>by simp only [List.mem_cons,List.not_mem_nil,or_false] at hq;have:=HXB.out;rcases hq with e | e <;> exact .inr (by omega))
open Go.RowKit Go.Maps
def RG (good:Value->Bool) (v:Value):Option (DataW Value × List MemPlace):=if good v then some (.held v,[]) else none
theorem RG_mk {good:Value->Bool} {v:Value} (h:good v=true):RG good v=some (.held v,[]):=by unfold RG;rw [if_pos h]
theorem RG_inv {good:Value->Bool} {v:Value} {d:DataW Value} {ps:List MemPlace} (h:RG good v=some (d,ps)):d = .held v/\ps=[]/\good v=true:=by
 unfold RG at h;by_cases g:good v=true
 ·rw [if_pos g] at h
  injection h with h;injection h with h1 h2;exact ⟨h1.symm,h2.symm,g⟩
 ·rw [if_neg g] at h;cases h
def KMapV (P:Program) (kt:TypeId) (good:Value->Bool) (w:World) (b n:Nat) (f:Nat->Option Value):Prop :=
 ∃ D:DataW Value,w.ownsMap P kt (RG good) b (Maps.size D) D/\Maps.size D=cnt n (fun k=>(f k).isSome) /\
  (∀ l,Maps.has D l=true->∃ k,k<n/\l = .int .i64 (k:Int)/\(f k).isSome=true) /\
  (∀ k v,k<n->f k=some v->Maps.has D (.int .i64 (k:Int))=true/\∀ z,D.atKey (.int .i64 (k:Int)) z = .held v)
section
variable {P:Program} {kt et t:TypeId} {w:World} {b n:Nat} {f:Nat->Option Value} {good:Value->Bool}
theorem ownsMap_tightV {R:Value->Option (DataW Value × List MemPlace)} {m:Nat} {D:DataW Value} (h:w.ownsMap P kt R b m D):w.ownsMap P kt R b (Maps.size D) D:=by
 obtain ⟨es,clock,hb,F,hs,rfl⟩:=h;exact ⟨es,clock,hb,F,by simp [Maps.size,length_sorted],rfl⟩
theorem KMapV.lt (h:KMapV P kt good w b n f):b<w.heap.size:=by
 obtain ⟨D,h1,_⟩:=h;exact h1.lt
theorem KMapV.obj (h:KMapV P kt good w b n f):∃ es c,w.heap[b]?=some (.map es c):=by
 obtain ⟨D,⟨es,c,hb,_⟩,_⟩:=h;exact ⟨es,c,hb⟩
theorem KMapV.same {w':World} (h:KMapV P kt good w b n f) (e:w'.heap[b]?=w.heap[b]?):KMapV P kt good w' b n f:=by
 obtain ⟨D,⟨es,c,hb,hr⟩,hh⟩:=h;exact ⟨D,⟨es,c,e.trans hb,hr⟩,hh⟩
theorem KMapV.chg {L:List Nat} {w':World} (h:KMapV P kt good w b n f) (c:Chg L w w') (hb:b∉L):KMapV P kt good w' b n f:=h.same (c.block b h.lt hb)
theorem KMapV.congr {g:Nat->Option Value} (h:KMapV P kt good w b n f) (e:∀ i,i<n->f i=g i):KMapV P kt good w b n g:=by
 obtain ⟨D,h1,h2,h3,h4⟩:=h;refine ⟨D,h1,h2.trans (cnt_congr fun i hi=>by rw [e i hi]),fun l hl=>?_,fun k v hk hv=>h4 k v hk (by rw [e k hk];exact hv)⟩;obtain ⟨k,hk,hl',hs⟩:=h3 l hl;exact ⟨k,hk,hl',by rw [<- e k hk];exact hs⟩
theorem KMapV.has (_h:KMapV P kt good w b n f) {D:DataW Value} (h3:∀ l,Maps.has D l=true->∃ k,k<n/\l = .int .i64 (k:Int)/\(f k).isSome=true)
  (h4:∀ k v,k<n->f k=some v->Maps.has D (.int .i64 (k:Int))=true/\∀ z,D.atKey (.int .i64 (k:Int)) z = .held v) {k:Nat} (hk:k<n) :
  Maps.has D (.int .i64 (k:Int))=(f k).isSome:=by
 cases hf:f k with
 | some v=>exact (h4 k v hk hf).1
 | none =>
  cases hh:Maps.has D (.int .i64 (k:Int)) with
  | false=>rfl
  | true =>
   obtain ⟨k',hk',e,hs⟩:=h3 _ hh;injection e with _ e;have:k=k':=by omega
   subst this;rw [hf] at hs;cases hs
theorem KMapV.look (h:KMapV P kt good w b n f) (hkt:P.underlying kt=some (.int .i64)) (ht:P.underlying t=some (.map kt et))
  {z:Value} (hz:(zeroValue et).run P w = .ok z w) (hg:good z=true) {k:Nat} (hk:k<n) (hn:n<=4096) :
  (Instr.lookup t (.map (some b)) (.int .i64 (k:Int)) true).run P w = .ok (.tuple #[(f k).getD z,.bool (f k).isSome]) w /\
  (Instr.lookup t (.map (some b)) (.int .i64 (k:Int)) false).run P w = .ok ((f k).getD z) w:=by
 have hh:=h;obtain ⟨D,h1,h2,h3,h4⟩:=h;have hkey:keyOf P kt (.int .i64 (k:Int))=some (.int .i64 (k:Int)):=Maps.keyOf_int_mk hkt (WalkArith.wf_i64 (by omega));have K:=Maps.int_keyed hkt;obtain ⟨v,ps,hrun,hv⟩:=h1.look_ok K ht hz (zd := .held z) (zp:=[]) (RG_mk hg) hkey;obtain ⟨v',ps',hrun',hv'⟩:=h1.lookup K ht (z:=z) hz (zd := .held z) (zp:=[]) (RG_mk hg) hkey;rw [hh.has h3 h4 hk] at hrun;obtain ⟨e1,-,-⟩:=RG_inv hv;obtain ⟨e2,-,-⟩:=RG_inv hv'
 have e:v=(f k).getD z/\v'=(f k).getD z:=by
  cases hf:f k with
  | some u =>
   have hu:=(h4 k u hk hf).2 (.held z);rw [hu] at e1 e2;injection e1 with e1;injection e2 with e2;exact ⟨e1.symm,e2.symm⟩
  | none =>
   have hn:Maps.has D (.int .i64 (k:Int))=false:=by rw [hh.has h3 h4 hk,hf];rfl
   rw [Maps.atKey_of_not_has hn] at e1 e2;injection e1 with e1;injection e2 with e2;exact ⟨e1.symm,e2.symm⟩
 rw [hrun,hrun',e.1,e.2];exact ⟨rfl,rfl⟩
theorem KMapV.look_out (h:KMapV P kt good w b n f) (hkt:P.underlying kt=some (.int .i64)) (ht:P.underlying t=some (.map kt et))
  {z:Value} (hz:(zeroValue et).run P w = .ok z w) (hg:good z=true) {k:Int} (hw:(Lit.int .i64 k).wf=true) (hk:k<0∨(n:Int)<=k) :
  (Instr.lookup t (.map (some b)) (.int .i64 k) true).run P w = .ok (.tuple #[z,.bool false]) w /\
  (Instr.lookup t (.map (some b)) (.int .i64 k) false).run P w = .ok z w:=by
 obtain ⟨D,h1,h2,h3,h4⟩:=h;have hkey:keyOf P kt (.int .i64 k)=some (.int .i64 k):=Maps.keyOf_int_mk hkt hw;have K:=Maps.int_keyed hkt;obtain ⟨v,ps,hrun,hv⟩:=h1.look_ok K ht hz (zd := .held z) (zp:=[]) (RG_mk hg) hkey;obtain ⟨v',ps',hrun',hv'⟩:=h1.lookup K ht (z:=z) hz (zd := .held z) (zp:=[]) (RG_mk hg) hkey
 have hn:Maps.has D (.int .i64 k)=false:=by
  cases hh:Maps.has D (.int .i64 k) with
  | false=>rfl
  | true =>
   obtain ⟨k',hk',e,hs⟩:=h3 _ hh;injection e with _ e;omega
 obtain ⟨e1,-,-⟩:=RG_inv hv;obtain ⟨e2,-,-⟩:=RG_inv hv';rw [Maps.atKey_of_not_has hn] at e1 e2;injection e1 with e1;injection e2 with e2;rw [hrun,hrun',hn,<- e1,<- e2];exact ⟨rfl,rfl⟩
theorem KMapV.del (h:KMapV P kt good w b n f) (hkt:P.underlying kt=some (.int .i64)) (ht:P.underlying t=some (.map kt et)) {k:Nat} (hk:k<n) (hn:n<=4096) (ty:TypeId) :
  ∃ w',(Builtin.delete_ #[t,kt] ty #[.map (some b),.int .i64 (k:Int)]).run P w = .ok (.tuple #[]) w'/\KMapV P kt good w' b n (fun i=>if i=k then none else f i)/\w.mapTurned w' b:=by
 have hh:=h;obtain ⟨D,h1,h2,h3,h4⟩:=h;have hkey:keyOf P kt (.int .i64 (k:Int))=some (.int .i64 (k:Int)):=Maps.keyOf_int_mk hkt (WalkArith.wf_i64 (by omega));have K:=Maps.int_keyed hkt;obtain ⟨w',hrun,hown,hturn⟩:=h1.drop K ht hkey ty;refine ⟨w',hrun,⟨D.del (.int .i64 (k:Int)),ownsMap_tightV hown,?_,?_,?_⟩,hturn⟩
 ·have e1:=Maps.size_del (k := .int .i64 (k:Int)) (h1.tidy K)
  have e2:=cnt_upd (p:=fun i=>(f i).isSome) (q:=fun i=>(if i=k then none else f i).isSome) hk (fun i _ hne=>by simp [hne]);simp only [if_true,Option.isSome_none,Bool.false_eq_true,if_false,hh.has h3 h4 hk] at e1 e2
  show _=cnt n (fun i=>(if i=k then none else f i).isSome)
  omega
 ·intro l hl
  by_cases e:l = .int .i64 (k:Int)
  ·subst e;rw [Maps.has_del_same] at hl;cases hl
  ·rw [Maps.has_del_other e] at hl
   obtain ⟨k',hk',rfl,hs⟩:=h3 l hl;have hne:k'≠k:=fun q=>e (by rw [q]);exact ⟨k',hk',rfl,by simp [hne,hs]⟩
 ·intro i v hi hv
  by_cases e:i=k
  ·simp [e] at hv
  ·simp only [e,if_false] at hv
   have hne:Lit.int .i64 (i:Int) ≠ .int .i64 (k:Int):=fun q=>by injection q with _ q;omega
   obtain ⟨g1,g2⟩:=h4 i v hi hv;exact ⟨by rw [Maps.has_del_other hne];exact g1,fun z=>by rw [Maps.atKey_del_other hne];exact g2 z⟩
theorem KMapV.put (h:KMapV P kt good w b n f) (hkt:P.underlying kt=some (.int .i64)) (ht:P.underlying t=some (.map kt et)) {k:Nat} {v:Value} (hk:k<n) (hn:n<=4096) (hv:good v=true) :
  ∃ w',(Instr.mapUpdate t (.map (some b)) (.int .i64 (k:Int)) v).run P w = .ok () w'/\KMapV P kt good w' b n (fun i=>if i=k then some v else f i)/\w.mapTurned w' b:=by
 have hh:=h;obtain ⟨D,h1,h2,h3,h4⟩:=h;have hkey:keyOf P kt (.int .i64 (k:Int))=some (.int .i64 (k:Int)):=Maps.keyOf_int_mk hkt (WalkArith.wf_i64 (by omega));have K:=Maps.int_keyed hkt;have hle:=cnt_le (fun k=>(f k).isSome) n;have hik:WideAt.IsKeyLit (.int .i64 (k:Int)):=K.key hkey;obtain ⟨w',hrun,hown,hturn⟩:=h1.store K ht (by unfold maxLen;omega) hkey (RG_mk hv);refine ⟨w',hrun,⟨_,ownsMap_tightV hown,?_,?_,?_⟩,hturn⟩
 ·have e1:=Maps.size_put (k := .int .i64 (k:Int)) (h1.tidy K) (.held v)
  have e2:=cnt_upd (p:=fun i=>(f i).isSome) (q:=fun i=>(if i=k then some v else f i).isSome) hk (fun i _ hne=>by simp [hne]);rw [hh.has h3 h4 hk] at e1;simp only [if_true,Option.isSome_some] at e2;rw [e1]
  split at e2 <;> split <;> simp_all <;> omega
 ·intro l hl
  by_cases e:l = .int .i64 (k:Int)
  ·exact ⟨k,hk,e,by simp⟩
  ·rw [Maps.has_put_other e] at hl
   obtain ⟨k',hk',rfl,hs⟩:=h3 l hl;have hne:k'≠k:=fun q=>e (by rw [q]);exact ⟨k',hk',rfl,by simp [hne,hs]⟩
 ·intro i v' hi hv'
  by_cases e:i=k
  ·subst e
   simp only [if_true,Option.some.injEq] at hv';subst hv';exact ⟨Maps.has_put_same h1.isMap hik _,fun z=>Maps.atKey_put_same h1.isMap hik _ z⟩
  ·simp only [e,if_false] at hv'
   have hne:Lit.int .i64 (i:Int) ≠ .int .i64 (k:Int):=fun q=>by injection q with _ q;omega
   obtain ⟨g1,g2⟩:=h4 i v' hi hv';exact ⟨by rw [Maps.has_put_other hne];exact g1,fun z=>by rw [Maps.atKey_put_other hne];exact g2 z⟩
theorem KMapV.ofEmpty (h:w.ownsMap P kt (RG good) b 0 (.map []:DataW Value)) (n:Nat):KMapV P kt good w b n (fun _=>none):=by
 refine ⟨.map [],h,(cnt_zero fun _ _=>rfl).symm,?_,?_⟩
 ·intro l hl;cases hl
 ·intro k v _ hv;cases hv
theorem KMapV.made (w:World) (n:Nat):KMapV P kt good (w.alloc (.map #[] 0)) w.heap.size n (fun _=>none) :=
 KMapV.ofEmpty (World.ownsMap_made _ _ _ _) n
theorem KMapV.clear (h:KMapV P kt good w b n f) (ht:P.underlying t=some (.map kt et)) (ty:TypeId) :
  ∃ w',(Builtin.clear_ #[t] ty #[.map (some b)]).run P w = .ok (.tuple #[]) w'/\KMapV P kt good w' b n (fun _=>none)/\w.mapTurned w' b:=by
 obtain ⟨D,⟨es,c,hb,F,hs,hD⟩,_⟩:=h;refine ⟨_,?_,KMapV.ofEmpty ⟨#[],c,ChangeMaps.heap_setBlock_same hb (.map #[] c),⟨by simp,MapKept.stamped_empty c,by simp⟩,Nat.zero_le _,rfl⟩ n,⟨es,c,#[],c,hb,rfl⟩⟩;simp [Builtin.clear_,run_underlying ht,MapKept.run_getObj_map hb,MapKept.run_setObj_map _ hb,Result.andThen];rfl
theorem mapTurned_chg {w':World} (h:w.mapTurned w' b):Chg [b] w w' :=
 (Chg.refl [b] w).grown h.grown (fun k e => .inl (by injection e with e;subst e;simp))
end
end Go.Proofs.YtkhcaclndepgbaaGreat
namespace Go.Proofs.YtkhcaclndepgbaaGreat
open Go.RowKit
def ofF (zs:List Int) (k i:Nat):Nat:=if i<k then (zs.getD i 0).toNat else 0
def ofK (zs:List Int) (n k:Nat):Tal:=⟨n,ofF zs k,ofF zs k⟩
def ofT (zs:List Int) (n:Nat):Tal:=ofK zs n n
theorem ofK_zero (zs:List Int) (n:Nat):ofK zs n 0=Tal.new n:=by
 unfold ofK Tal.new;have:ofF zs 0=fun _=>0:=by funext i;simp [ofF]
 rw [this]
theorem ofF_succ {zs:List Int} {k v:Nat} (h:zs.getD k 0=(v:Int)):ofF zs (k+1)=fun i=>if i=k then v else ofF zs k i:=by
 funext i
 unfold ofF;by_cases e:i=k
 ·subst e;rw [if_pos (by omega),if_pos rfl,h];simp
 ·rw [if_neg e]
  by_cases e2:i<k
  ·rw [if_pos (by omega),if_pos e2]
  ·rw [if_neg (by omega),if_neg e2]
theorem ofF_at (zs:List Int) (k:Nat):ofF zs k k=0:=by simp [ofF]
theorem of_frees {zs:List Int} {n k v:Nat} (hk:k<n) (h:zs.getD k 0=(v:Int)):(ofK zs n (k+1)).frees+(if v=0 then 0 else 1)=(ofK zs n k).frees:=by
 have e:=cnt_upd (n:=n) (k:=k) (p:=(ofK zs n k).free) (q:=(ofK zs n (k+1)).free) hk (fun i _ hne=>by
  simp only [Tal.free,ofK,ofF_succ h];rw [if_neg hne])
 have e1:(ofK zs n k).free k=true:=by simp [Tal.free,ofK,ofF_at]
 have e2:(ofK zs n (k+1)).free k=(v==0):=by simp [Tal.free,ofK,ofF_succ h]
 rw [e1,e2] at e
 show cnt n (ofK zs n (k+1)).free+_=cnt n (ofK zs n k).free
 by_cases hv:v=0
 ·simp [hv] at e ⊢;omega
 ·simp [hv] at e ⊢;omega
theorem of_waits (zs:List Int) (n k:Nat):(ofK zs n k).waits=0:=cnt_zero fun i _=>by
 simp only [Tal.waitB,ofK];by_cases q1:ofF zs k i=0 <;> simp [q1]
section
variable {w:World} {t bc bk n k v:Nat} {zs:List Int} (h:TallyAt w t bc bk (ofK zs n k)) (hk:k<n) (hv:zs.getD k 0=(v:Int)) (hb:v<=65535)
include h hk hv hb
omit hk in
theorem of_keep (w':World) (hc:w'.heap[bc]?=some (.cells (u16s n (ofF zs (k+1))) 33 (0,0)))
  (ht:w'.heap[t]?=some (.cells #[.slice (some ⟨bc,0,none⟩) n n,.map (some bk),.int .i64 ((ofK zs n (k+1)).frees:Int),.int .i64 0] 215 (0,0))) (hm:w'.heap[bk]?=w.heap[bk]?):TallyAt w' t bc bk (ofK zs n (k+1)):=by
 have hle:∀ i,i<n->ofF zs (k+1) i<=65535:=fun i hi=>by
  rw [ofF_succ hv]
  show (if i=k then v else ofF zs k i)<=65535
  split
  ·exact hb
  ·exact h.now i hi
 refine ⟨h.n1,h.n2,hle,hle,?_,hc,?_,h.ne⟩
 ·rw [of_waits];exact ht
 ·exact (h.map.congr fun i _=>by simp [Tal.keptAt,ofK]).same hm
theorem of_step0 (h0:v=0):TallyAt (w.setCell ⟨bc,k,none⟩ (.int .u16 0)) t bc bk (ofK zs n (k+1)):=by
 have e:=of_frees hk hv;rw [if_pos h0,Nat.add_zero] at e;refine of_keep h hv hb _ ?_ ?_ (zso _ _ h.ne2.symm)
 ·rw [zsb h.cs]
  have:=u16s_set (f:=ofF zs k) (v:=0) hk;rw [ofF_succ hv,h0];exact congrArg (fun x=>some (Obj.cells x 33 (0,0))) this
 ·rw [zso _ _ h.ne,e]
  have:=h.top;rw [of_waits] at this;exact this
theorem of_step1 (h0:v≠0):TallyAt ((w.setCell ⟨bc,k,none⟩ (.int .u16 (v:Int))).setCell ⟨t,2,none⟩ (.int .i64 (((ofK zs n k).frees:Int) - 1))) t bc bk (ofK zs n (k+1)):=by
 have e:=of_frees hk hv;rw [if_neg h0] at e;refine of_keep h hv hb _ ?_ ?_ ?_
 ·rw [zso _ _ h.ne.symm,zsb h.cs]
  have:=u16s_set (f:=ofF zs k) (v:=v) hk;rw [ofF_succ hv];exact congrArg (fun x=>some (Obj.cells x 33 (0,0))) this
 ·have ht:(w.setCell ⟨bc,k,none⟩ (.int .u16 (v:Int))).heap[t]?=_:=(zso _ _ h.ne).trans h.top
  rw [zsb ht,of_waits];have e3:((ofK zs n k).frees:Int) - 1=((ofK zs n (k+1)).frees:Int):=by omega
  rw [e3];rfl
 ·rw [zso _ _ h.ne1.symm,zso _ _ h.ne2.symm]
end
theorem tofU_zs {w:World} {a:Option Addr} {n cap:Nat} {l:Nat->Nat} {zs:List Int} (hz:∀ i,i<n->zs.getD i 0=(l i:Int)) (hr:U16In w a n l) (hcap:n<=cap) (hm:cap<=maxLen) (h1:1<=n) (h2:n<=4096) :
  Calls Tryz.prog 100 #[.slice a n cap] w fun e w'=>∃ t bc bk,e = .returned (.tuple #[.pointer (some ⟨t,0,none⟩),.int .i64 0])/\TallyAt w' t bc bk (ofT zs n)/\Chg [] w w'/\w.heap.size<=t/\w.heap.size<=bc/\w.heap.size<=bk:=by
 unfold maxLen at hm;have HZ:=zh hz;have HR:=zh hr;clear hr hz;go_enter Tryz.func100,Tryz.ntmps100;go_wp2_with fail;refine (tnew_ex n _ h1 h2).mono ?_;rintro e w1 ⟨t,bc,bk,rfl,hT,hC1,l1,l2,l3⟩;have L:w.heap.size<=t/\w.heap.size<=bc/\w.heap.size<=bk:=⟨l1,l2,l3⟩;have HC1:=zh hC1;clear hC1;rw [<- ofK_zero zs] at hT;go_wp2_with fail
 go_loopw [19] (fun s wr=>∃ k:Nat,k<=n/\s = .int .i64 (k:Int)/\TallyAt wr t bc bk (ofK zs n k)/\Chg [] w wr) (fun s _=>n - (intOf s).toNat)
 case atStart=>exact ⟨0,Nat.zero_le _,rfl,hT,HC1.out⟩
 case round =>
  obtain ⟨k,hk,rfl,hTk,hCk⟩:=hrel;by_cases hlk:k<n
  ·obtain ⟨b,off,rfl,hbl,hcs⟩:=HR.out.2 (by omega)
   have hc:=hcs k hlk;have hc2:=(hCk.cell (p:=⟨b,off+k,none⟩) hbl (by simp)).trans hc;have hvl:=HR.out.1 k hlk;have hv:=HZ.out k hlk;obtain ⟨v,hvd⟩:∃ v,v=l k:=⟨_,rfl⟩;rw [<- hvd] at hc2 hvl hv;have hvb:v<=65535:=by omega
   have c0:=hTk.c0;have c2:=hTk.c2;have fz:=hTk.fz 2;have ne:=hTk.ne;have ne':=hTk.ne.symm;have fc:=hTk.cfz k;have cc:=hTk.cc (i:=k) hlk;have fl:=hTk.frees_le;have i0:(0:Int)<=(k:Int):=by omega
   have i1:(k:Int)<(n:Int):=by omega
   have HCk:=zh hCk;have HT:=zh hT;have Hv:=zh hv;have HTk:=zh hTk;clear hT hCk hv hc hcs hvl hvd hTk;by_cases h0:v=0
   ·have E:=zh (of_step0 HTk.out hlk Hv.out hvb h0)
    subst h0;go_wp2_with fail
    go_roundw
    case rel=>exact ⟨k+1,by omega,by go_num,E.out,Chg.setCell HCk.out (.inr (by show w.heap.size<=bc;omega)) _⟩
    case measure=>simp [intOf];omega
   ·have E:=zh (of_step1 HTk.out hlk Hv.out hvb h0)
    have hp:(0:Int)<(v:Int):=by omega
    clear h0;go_wp2_with fail
    go_roundw
    case rel=>exact ⟨k+1,by omega,by go_num,E.out,Chg.setCell (Chg.setCell HCk.out (.inr (by show w.heap.size<=bc;omega)) _) (.inr (by show w.heap.size<=t;omega)) _⟩
    case measure=>simp [intOf];omega
  ·obtain rfl:k=n:=by omega
   go_wp2_with fail
   go_ret2
   exact ⟨t,bc,bk,rfl,hTk,hCk,l1,l2,l3⟩
theorem tofU_at {w:World} {a:Option Addr} {n cap:Nat} {l:Nat->Nat} (hr:U16In w a n l) (hcap:n<=cap) (hm:cap<=maxLen) (h1:1<=n) (h2:n<=4096) :
  Calls Tryz.prog 100 #[.slice a n cap] w fun e w'=>∃ t bc bk,e = .returned (.tuple #[.pointer (some ⟨t,0,none⟩),.int .i64 0])/\TallyAt w' t bc bk ⟨n,l,l⟩/\Chg [] w w'/\w.heap.size<=t/\w.heap.size<=bc/\w.heap.size<=bk:=by
 have hz:∀ i,i<n->((List.range n).map fun i=>(l i:Int)).getD i 0=(l i:Int):=fun i hi=>by simp [hi]
 refine (tofU_zs hz hr hcap hm h1 h2).mono ?_;rintro e w' ⟨t,bc,bk,rfl,hT,hC,q⟩;have he:∀ i,i<n->ofF ((List.range n).map fun i=>(l i:Int)) n i=l i:=fun i hi=>by unfold ofF;rw [if_pos hi,hz i hi];rfl
 exact ⟨t,bc,bk,rfl,hT.congr rfl (fun i hi=>(he i hi).symm) (fun i hi=>(he i hi).symm),hC,q⟩
end Go.Proofs.YtkhcaclndepgbaaGreat
